/- AuditBegins of layer 44, for every list of attempts by numbers. -/
import Derived.Test.YtcagogkgnnckaaaGreatDoorAuA
namespace Go.Proofs.YtcagogkgnnckaaaGreatDoor
open Go.RowKit
set_option linter.unusedVariables false
set_option linter.unusedSimpArgs false

/-- the first attempts of a row -/
theorem AtRow.take {w : World} {a : Option Addr} {n cap : Nat} {l : List At} (h : AtRow w (.slice a n cap) l) {k : Nat} (hk : k ≤ l.length) : AtRow w (.slice a k cap) (l.take k) := by
  obtain ⟨a', cap', e, h1, h2, h3, h4⟩ := h
  cases e
  have hl : (l.take k).length = k := by simp; omega
  refine ⟨a, cap, by rw [hl], by omega, h2, fun x hx => h3 x (List.mem_of_mem_take hx), ?_⟩
  rcases h4 with rfl | ⟨b, off, rfl, hb, hx⟩
  · exact .inl (by simp)
  · refine .inr ⟨b, off, rfl, hb, fun i x hi => ?_⟩
    rw [List.getElem?_take] at hi
    split at hi
    · exact hx i x hi
    · cases hi
theorem ckL_ok {l : List At} (h1 : l.length ≤ 10000) (h2 : ∀ a ∈ l, a.ok = true) : ckL l = 0 := by
  unfold ckL
  rw [if_neg (by omega), List.all_eq_true.2 h2]; rfl
/-- what is asked of the first k, of all, of the first j, and of one more -/
theorem ask_none {n : Nat} {l : List At} (h : askN n l = none) (k : Nat) : askN n (l.take k) = none := by rw [askN_take, h]
theorem ask_some {n : Nat} {l : List At} {j : Nat} (h : askN n l = some j) : (∀ k, j < k → askN n (l.take k) = some j) ∧ (∀ k, k ≤ j → askN n (l.take k) = none) := by
  refine ⟨fun k hk => by rw [askN_take, h]; simp [hk], fun k hk => by rw [askN_take, h]; simp [Nat.not_lt.2 hk]⟩
theorem ended_is_once {l : List At} (h : askN 1 l = none) : askN 0 l = none := ended_once l _ _ 0 (fun _ h => h) h
theorem config_ok (w : World) : Calls Tryz.prog 6 #[] w fun e w' => e = .returned (.agg #[.int .i64 8, .int .i64 1, .int .i64 4, .int .i64 4, .int .i64 4, .int .i64 2, .int .i64 4, .int .i64 2, .int .i64 8, .int .u32 1]) ∧ Keeps (fun _ => False) w w' := by
  go_enter Tryz.func6, Tryz.ntmps6
  go_wp2_with fail
  exact bodyPost_ret_by (v := .agg #[.int .i64 8, .int .i64 1, .int .i64 4, .int .i64 4, .int .i64 4, .int .i64 2, .int .i64 4, .int .i64 2, .int .i64 8, .int .u32 1]) (by simp [results, Tryz.results6, go_sem, *]) rfl ⟨rfl, Keeps.c (Keeps.r (a := w))⟩
def ptN (pv : Value) (wr : World) : Nat := match pv with | .pointer (some a) => (match wr.cell? a with | some v => (intOf v).toNat | none => 0) | _ => 0
theorem ptN_is {wr : World} {b : Nat} {n : Int} (h : wr.cell? ⟨b, 0, none⟩ = some (.int .i64 n)) : ptN (.pointer (some ⟨b, 0, none⟩)) wr = n.toNat := by simp [ptN, h, intOf]
set_option maxRecDepth 100000 in
set_option maxHeartbeats 4000000 in
theorem auditBegins_walk (v : Value) (l : List Ty) (k : Nat) (w : World) (hv : TyRow w v l) (hk : k < 256)
    (hworks : ∀ W, Calls Tryz.prog 4 #[] W fun e w' => e = .returned (.bool true) ∧ Keeps (fun _ => False) W w')
    (hmc : ∀ W, Calls Tryz.prog 20 #[.agg #[.int .i64 8, .int .i64 1, .int .i64 4, .int .i64 4, .int .i64 4, .int .i64 2, .int .i64 4, .int .i64 2, .int .i64 8, .int .u32 1]] W fun e w' => e = .returned (.int .i64 0) ∧ Keeps (fun _ => False) W w') :
    Calls Tryz.prog 3 #[v, .int .u8 k] w fun e w' => e = .returned (.bool true) ∧ Keeps (fun _ => False) w w' := by
  have HWK := hid hworks
  have HM := hid hmc
  by_cases h80 : 80 < l.length
  · obtain ⟨pa, cap, rfl, hcap, hmax, h256, hx⟩ := hv
    have h80' : 80 < (l.length : Int) := by omega
    clear hcap hmax h256 hx hworks hmc h80
    go_enter Tryz.func3, Tryz.ntmps3
    go_wp2_with fail
    refine (HWK.out _).mono ?_
    rintro e w1 ⟨rfl, k1⟩
    have K1 := hid k1
    clear k1
    go_wp2_with fail
    go_ret
    exact ⟨rfl, K1.out⟩
  · have HTR := hid (fun W hk => tries_ok v l W hk (by omega))
    have HV := hid hv
    obtain ⟨_, _, t3, t4⟩ := tri_ok (l := l) (by omega)
    obtain ⟨all, hall⟩ : ∃ a, (triL l).2 = a := ⟨_, rfl⟩
    rw [hall] at HTR t3 t4
    obtain ⟨pa, cap, rfl, hcap, hmax, h256, hx⟩ := hv
    have h80' : ¬ 80 < (l.length : Int) := by omega
    have hal : all.length ≤ 80 := by omega
    have HCK := hid (fun m => (ckL_ok (l := all.take m) (by simp; omega) (fun a ha => (t4 a (List.mem_of_mem_take ha)).1)))
    have HCA := hid (ckL_ok (l := all) (by omega) (fun a ha => (t4 a ha).1))
    clear hcap hmax h256 hx hworks hmc h80 t3 t4 hall
    go_enter Tryz.func3, Tryz.ntmps3
    go_wp2_with fail
    refine (HTR.out _ HV.out).mono ?_
    rintro e w1 ⟨u, rfl, hu, k1⟩
    obtain ⟨qa, qc, rfl, _, _, _, _⟩ := id hu
    have HU := hid hu
    have K1 := hid k1
    obtain ⟨kk, hkk, hkl⟩ : ∃ kk : Nat, (k : Int).tmod ((all.length : Int) + 1) = kk ∧ kk ≤ all.length := by
      refine ⟨k % (all.length + 1), ?_, Nat.le_of_lt_succ (Nat.mod_lt _ (Nat.succ_pos _))⟩
      rw [show ((all.length : Int) + 1) = ((all.length + 1 : Nat) : Int) by omega]
      exact (Int.ofNat_tmod k (all.length + 1)).symm
    clear k1 hu
    go_wp2_with fail
    refine (config_ok _).mono ?_
    rintro e w2 ⟨rfl, k2⟩
    have K2 := hid (K1.out.trans k2)
    have HU2 := hid (HU.out.keeps k2 (fun _ _ h => h))
    clear k2 K1 HU
    go_wp2_with fail
    have vp := alloc_old (o := .cells #[.int .i64 0] 3) (alloc_new (w := w2) (o := .cells #[.int .i64 8, .int .i64 1, .int .i64 4, .int .i64 4, .int .i64 4, .int .i64 2, .int .i64 4, .int .i64 2, .int .i64 8, .int .u32 1] 28))
    have vb := alloc_new' (w := w2.alloc (.cells #[.int .i64 8, .int .i64 1, .int .i64 4, .int .i64 4, .int .i64 4, .int .i64 2, .int .i64 4, .int .i64 2, .int .i64 8, .int .u32 1] 28)) (o := .cells #[.int .i64 0] 3) (n := w2.heap.size + 1) (by simp)
    have kv : Keeps (fun _ => False) w2 ((w2.alloc (.cells #[.int .i64 8, .int .i64 1, .int .i64 4, .int .i64 4, .int .i64 4, .int .i64 2, .int .i64 4, .int .i64 2, .int .i64 8, .int .u32 1] 28)).alloc (.cells #[.int .i64 0] 3)) := Keeps.r
    have hz : w2.heap.size < w2.heap.size + 1 := by omega
    generalize w2.heap.size + 1 = b0 at vb hz ⊢
    generalize w2.heap.size = p at vp hz ⊢
    generalize (w2.alloc (.cells #[.int .i64 8, .int .i64 1, .int .i64 4, .int .i64 4, .int .i64 4, .int .i64 2, .int .i64 4, .int .i64 2, .int .i64 8, .int .u32 1] 28)).alloc (.cells #[.int .i64 0] 3) = w3 at vp vb kv ⊢
    have HP := hid vp
    have HB0 := hid vb
    have HK3 := hid (K2.out.trans kv)
    have HU3 := hid (HU2.out.keeps kv (fun _ _ h => h))
    clear vp vb kv hz K2 HU2 HTR HV hkk
    go_loopw [8] (fun pv wr => ∃ n b : Nat, n ≤ 4 ∧ pv = .pointer (some ⟨b, 0, none⟩) ∧ Hid (wr.heap[b]? = some (.cells #[.int .i64 n] 3) ∧ Keeps (fun _ => False) w3 wr)) (fun pv wr => 4 - ptN pv wr)
    case atStart => exact ⟨0, b0, by omega, rfl, hid ⟨HB0.out, Keeps.refl _ _⟩⟩
    case round =>
      clear HB0
      obtain ⟨n, b, hn4, rfl, HI⟩ := hrel
      have c0 := cell_at (i := 0) HI.out.1 rfl
      have HC0 := hid c0
      have HBB := hid HI.out.1
      have HKR := hid HI.out.2
      have HROW := hid (fun W (hk : Keeps (fun _ => False) wr W) => HU3.out.keeps (HKR.out.trans hk) (fun _ _ h => h))
      by_cases hlt : n < 4
      · have hlt' : (n : Int) < 4 := by omega
        have hn0 : (0 : Int) ≤ n := by omega
        have HASK := hid (fun W v' l' (hk : Keeps (fun _ => False) wr W) (hv' : AtRow W v' l') (hck : ckL l' = 0) => ask_ok n hlt b p v' l' W (block_keep HBB.out hk (fun h => h)) (block_keep HP.out (HKR.out.trans hk) (fun h => h)) hv' hck HM.out)
        have hkk' : (kk : Int) ≤ (all.length : Int) := by omega
        have hkk0 : (0 : Int) ≤ kk := by omega
        have HA0 := hid (fun W (hk : Keeps (fun _ => False) wr W) => HASK.out W _ _ hk ((HROW.out W hk).take hkl) (HCK.out kk))
        have HA1 := hid (fun W (hk : Keeps (fun _ => False) wr W) => HASK.out W _ _ hk (HROW.out W hk) HCA.out)
        cases hr : askN n all with
        | none =>
          rw [ask_none hr] at HA0
          rw [hr] at HA1
          dsimp only [Option.isNone, rtI] at HA0 HA1
          clear hr
          go_wp2_with fail
          refine (HA0.out _ (Keeps.refl _ _)).mono ?_
          rintro e wa ⟨rfl, ka⟩
          go_wp2_with fail
          refine (HA1.out _ ka).mono ?_
          rintro e wz ⟨rfl, kb⟩
          have kz := ka.trans kb
          clear ka kb
          have d1 := cell_at (i := 0) (block_keep HBB.out kz (fun h => h)) rfl
          have KZ := hid (HKR.out.trans kz)
          clear kz
          go_wp2_with fail
          refine ⟨⟨n + 1, wz.heap.size, by omega, rfl, hid ⟨alloc_new, (KZ.out.alloc _)⟩⟩, ?_⟩
          rw [ptN_is HC0.out]
          have hp1 : (World.alloc wz (.cells #[.int .i64 ((n : Int) + 1)] 3)).cell? ⟨wz.heap.size, 0, none⟩ = some (.int .i64 ((n : Int) + 1)) := cell_at alloc_new rfl
          rw [ptN_is hp1]
          omega
        | some j =>
          have hjl := askN_lt hr
          have hj0 : (0 : Int) ≤ j := by omega
          have hj1 : (j : Int) ≤ (all.length : Int) := by omega
          have hj2 : (j : Int) + 1 ≤ (all.length : Int) := by omega
          have hj3 : (all.length : Int) ≤ 80 := by omega
          have HA2 := hid (fun W (hk : Keeps (fun _ => False) wr W) => HASK.out W _ _ hk ((HROW.out W hk).take (k := j) (by omega)) (HCK.out j))
          have HA3 := hid (fun W (hk : Keeps (fun _ => False) wr W) => HASK.out W _ _ hk ((HROW.out W hk).take (k := j + 1) (by omega)) (HCK.out (j + 1)))
          rw [(ask_some hr).2 j (Nat.le_refl _)] at HA2
          rw [(ask_some hr).1 (j + 1) (Nat.lt_succ_self _)] at HA3
          rw [hr] at HA1
          by_cases hjk : j < kk
          · rw [(ask_some hr).1 kk hjk] at HA0
            dsimp only [Option.isNone, rtI] at HA0 HA1 HA2 HA3
            have hjk' : (j : Int) < (kk : Int) := by omega
            clear hr hjk
            go_wp2_with fail
            refine (HA0.out _ (Keeps.refl _ _)).mono ?_
            rintro e wa ⟨rfl, ka⟩
            go_wp2_with fail
            refine (HA1.out _ ka).mono ?_
            rintro e wb ⟨rfl, kb⟩
            have kab := ka.trans kb
            go_wp2_with fail
            refine (HA2.out _ kab).mono ?_
            rintro e wc ⟨rfl, kc⟩
            have kac := kab.trans kc
            go_wp2_with fail
            refine (HA3.out _ kac).mono ?_
            rintro e wz ⟨rfl, kd⟩
            have kz := kac.trans kd
            clear ka kb kab kc kac kd
            have d1 := cell_at (i := 0) (block_keep HBB.out kz (fun h => h)) rfl
            have KZ := hid (HKR.out.trans kz)
            clear kz
            go_wp2_with fail
            refine ⟨⟨n + 1, wz.heap.size, by omega, rfl, hid ⟨alloc_new, (KZ.out.alloc _)⟩⟩, ?_⟩
            rw [ptN_is HC0.out]
            have hp1 : (World.alloc wz (.cells #[.int .i64 ((n : Int) + 1)] 3)).cell? ⟨wz.heap.size, 0, none⟩ = some (.int .i64 ((n : Int) + 1)) := cell_at alloc_new rfl
            rw [ptN_is hp1]
            omega
          · rw [(ask_some hr).2 kk (by omega)] at HA0
            dsimp only [Option.isNone, rtI] at HA0 HA1 HA2 HA3
            have hjk' : ¬ (j : Int) < (kk : Int) := by omega
            clear hr hjk
            go_wp2_with fail
            refine (HA0.out _ (Keeps.refl _ _)).mono ?_
            rintro e wa ⟨rfl, ka⟩
            go_wp2_with fail
            refine (HA1.out _ ka).mono ?_
            rintro e wb ⟨rfl, kb⟩
            have kab := ka.trans kb
            go_wp2_with fail
            refine (HA2.out _ kab).mono ?_
            rintro e wc ⟨rfl, kc⟩
            have kac := kab.trans kc
            go_wp2_with fail
            refine (HA3.out _ kac).mono ?_
            rintro e wz ⟨rfl, kd⟩
            have kz := kac.trans kd
            clear ka kb kab kc kac kd
            have d1 := cell_at (i := 0) (block_keep HBB.out kz (fun h => h)) rfl
            have KZ := hid (HKR.out.trans kz)
            clear kz
            go_wp2_with fail
            refine ⟨⟨n + 1, wz.heap.size, by omega, rfl, hid ⟨alloc_new, (KZ.out.alloc _)⟩⟩, ?_⟩
            rw [ptN_is HC0.out]
            have hp1 : (World.alloc wz (.cells #[.int .i64 ((n : Int) + 1)] 3)).cell? ⟨wz.heap.size, 0, none⟩ = some (.int .i64 ((n : Int) + 1)) := cell_at alloc_new rfl
            rw [ptN_is hp1]
            omega
      · obtain rfl : n = 4 := by omega
        have HE := hid (fun W (hk : Keeps (fun _ => False) wr W) => aended _ all W (HROW.out W hk))
        have HO := hid (fun W (hk : Keeps (fun _ => False) wr W) => aonce _ all W (HROW.out W hk))
        rw [HCA.out, ans0] at HE HO
        have hx : (runs endF (fun _ => false) all 0).isNone = true → (runs onceF (fun _ => false) all 0).isNone = true := fun h => by
          rw [Option.isNone_iff_eq_none] at h ⊢
          exact ended_is_once h
        generalize (runs endF (fun _ => false) all 0).isNone = x1 at HE hx
        generalize (runs onceF (fun _ => false) all 0).isNone = x0 at HO hx
        generalize rtI (runs endF (fun _ => false) all 0) = y1 at HE
        generalize rtI (runs onceF (fun _ => false) all 0) = y0 at HO
        cases x1 with
        | false =>
          clear hx
          go_wp2_with fail
          refine (HE.out _ (Keeps.refl _ _)).mono ?_
          rintro e wa ⟨rfl, ka⟩
          go_wp2_with fail
          refine (HO.out _ ka).mono ?_
          rintro e wb ⟨rfl, kb⟩
          have kab := ka.trans kb
          go_wp2_with fail
          refine (HWK.out _).mono ?_
          rintro e wc ⟨rfl, kc⟩
          have KC := hid (HK3.out.trans (HKR.out.trans (kab.trans kc)))
          clear ka kb kab kc
          go_wp2_with fail
          go_ret
          exact ⟨rfl, KC.out⟩
        | true =>
          obtain rfl := hx rfl
          clear hx
          go_wp2_with fail
          refine (HE.out _ (Keeps.refl _ _)).mono ?_
          rintro e wa ⟨rfl, ka⟩
          go_wp2_with fail
          refine (HO.out _ ka).mono ?_
          rintro e wb ⟨rfl, kb⟩
          have kab := ka.trans kb
          go_wp2_with fail
          refine (HWK.out _).mono ?_
          rintro e wc ⟨rfl, kc⟩
          have KC := hid (HK3.out.trans (HKR.out.trans (kab.trans kc)))
          clear ka kb kab kc
          go_wp2_with fail
          go_ret
          exact ⟨rfl, KC.out⟩
end Go.Proofs.YtcagogkgnnckaaaGreatDoor
