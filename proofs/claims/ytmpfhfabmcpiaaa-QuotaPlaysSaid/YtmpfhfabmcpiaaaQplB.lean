/- estraylaw35.QuotaPlays: the walk. -/
import Derived.Test.YtmpfhfabmcpiaaaQplA
namespace Go.Proofs.Ytmpfhfabmcpiaaa
open Go.RowKit Go.ChangeShapes Go.WideShapes

set_option maxRecDepth 100000 in
set_option maxHeartbeats 8000000 in
theorem quotaPlays_core (m : Int) (p : Option Addr) (len cap : Nat) (w : World) (hlen : len ≤ 100)
    (hsl : len = 0 ∨ ∃ b off, p = some ⟨b, off, none⟩ ∧ b < w.heap.size ∧ ∀ i, i < len → CellsAt w b (off + i * 4) [.int .u8, .int .i64, .int .i64, .int .i64]) :
    Calls Try.prog 6 #[.int .i64 m, .slice p len cap] w fun e w' => e = .returned (.bool true) ∧ Keeps (fun _ => False) w w' := by
  have HSL := hid hsl; clear hsl
  have hnew : Hid (∃ (er : Int) (s : Option (Option Int)), (Calls Try.prog 9 #[.int .i64 m] w fun e w1 => ∃ pq, e = .returned (.tuple #[.pointer pq, .int .i64 er]) ∧ Keeps (fun _ => False) w w1 ∧ QS w1 pq m s ∧ (∀ y, At pq y → w.heap.size ≤ y) ∧ pq.isNone = s.isNone) ∧
      ∀ w1, w.heap.size ≤ w1.heap.size → Calls Try.prog 15 #[.int .i64 m] w1 fun e w2 => ∃ pr, e = .returned (.tuple #[.pointer pr, .int .i64 er]) ∧ Keeps (fun _ => False) w1 w2 ∧ RS w2 pr m s ∧ (∀ y, At pr y → w.heap.size ≤ y) ∧ pr.isNone = s.isNone) := by
    by_cases hm : m < 1 ∨ 256 < m
    · refine ⟨2, none, (new_bad m w hm).mono ?_, fun w1 _ => (rnew_bad m w1 hm).mono ?_⟩
      · rintro e w' ⟨rfl, rfl⟩
        exact ⟨_, rfl, Keeps.refl _ _, .inl ⟨rfl, rfl⟩, fun y hy => (by cases hy), rfl⟩
      · rintro e w' ⟨rfl, rfl⟩
        exact ⟨_, rfl, Keeps.refl _ _, .inl ⟨rfl, rfl⟩, fun y hy => (by cases hy), rfl⟩
    · refine ⟨0, some none, (new_ok m w (by omega) (by omega)).mono ?_, fun w1 h1 => (rnew_ok m w1 (by omega) (by omega)).mono ?_⟩
      · rintro e w' ⟨rfl, hk, h⟩
        exact ⟨_, rfl, hk, .inr ⟨_, _, rfl, rfl, by omega, h⟩, fun y hy => (by cases hy; exact Nat.le_refl _), rfl⟩
      · rintro e w' ⟨rfl, hk, h⟩
        exact ⟨_, rfl, hk, .inr ⟨_, _, rfl, rfl, h⟩, fun y hy => (by cases hy; exact h1), rfl⟩
  obtain ⟨er, s0, hn1, hn2⟩ := hnew.out
  clear hnew
  have HN1 := hid hn1; have HN2 := hid hn2; clear hn1 hn2
  have hl100 : (len : Int) ≤ 100 := by omega
  go_enter Try.func6, Try.ntmps6
  go_wp2_with fail
  refine HN1.out.mono ?_
  rintro e w1 ⟨pq, rfl, hk1, hq, hpq, hpq2⟩
  have HK1 := hid hk1; have HQ1 := hid hq; have HP1 := hid hpq; clear hk1 hq hpq
  have HPQ2 := hid hpq2; clear hpq2
  go_wp2_with fail
  refine (HN2.out w1 HK1.out.size).mono ?_
  rintro e w2 ⟨pr, rfl, hk2, hr, hpr, hpr2⟩
  have HK2 := hid (HK1.out.trans hk2); have HQ2 := hid (HQ1.out.same hk2); have HR2 := hid hr; have HP2 := hid hpr; clear hk2 hr hpr HN1 HN2
  have hpq2 := HPQ2.out
  clear HQ1 HK1 HPQ2
  go_wp2_with fail
  clear hpq2 hpr2
  go_loopw [5, 7, 9, 10, 49] (fun s5 s7 s9 s10 s49 wr => ∃ (k N : Nat) (pq pr po pw : Option Addr) (s so : Option (Option Int)), k ≤ len ∧ s49 = .int .i64 k ∧ s5 = .pointer pq ∧ s7 = .pointer pr ∧ s9 = .pointer po ∧ s10 = .pointer pw ∧
      Hid (QS wr pq m s ∧ RS wr pr m s ∧ QSlow wr po m so N ∧ RSlow wr pw m so N ∧ (∀ y, At pq y → N ≤ y) ∧ (∀ y, At pr y → N ≤ y)) ∧ Hid (w.heap.size ≤ N) ∧ Hid (Keeps (fun _ => False) w wr)) (fun _ _ _ _ s49 _ => len - (intOf s49).toNat)
  case atStart => exact ⟨0, w.heap.size, pq, pr, none, none, s0, none, Nat.zero_le _, rfl, rfl, rfl, rfl, rfl, ⟨HQ2.out, HR2.out, .inl ⟨rfl, rfl⟩, .inl ⟨rfl, rfl⟩, HP1.out, HP2.out⟩, Nat.le_refl _, HK2⟩
  case round =>
    obtain ⟨k, N, pq, pr, po, pw, s, so, hk, rfl, rfl, rfl, rfl, rfl, HS, HN, HK⟩ := hrel
    clear HQ2 HR2 HP1 HP2 HK2
    by_cases hlt : k < len
    · obtain ⟨b, off, rfl, hbl, hcell⟩ : ∃ b off, p = some ⟨b, off, none⟩ ∧ b < w.heap.size ∧ CellsAt wr b (off + k * 4) [.int .u8, .int .i64, .int .i64, .int .i64] := by
        rcases HSL.out with h | ⟨b, off, h1, h2, h3⟩
        · omega
        · exact ⟨b, off, h1, h2, (h3 k (by omega)).below (HK.out.block b h2 (fun x => x))⟩
      obtain ⟨_, c0, d, rfl, wd⟩ := hcell 0 _ rfl
      obtain ⟨_, c1, u, rfl, _⟩ := hcell 1 _ rfl
      obtain ⟨_, c2, g, rfl, _⟩ := hcell 2 _ rfl
      obtain ⟨_, c3, n, rfl, _⟩ := hcell 3 _ rfl
      obtain ⟨d0, d1⟩ := bounds_u8 wd
      clear hcell wd
      rw [Nat.add_zero] at c0
      have hk0 : Keeps (fun _ => False) wr (wr.alloc (.cells #[.int .u8 d, .int .i64 u, .int .i64 g, .int .i64 n] 44)) := (Keeps.refl _ _).alloc _
      have HS1 := hid (show _ ∧ _ ∧ _ ∧ _ ∧ _ ∧ _ from ⟨HS.out.1.same hk0, HS.out.2.1.same hk0, HS.out.2.2.1.keeps hk0 (fun _ h => h.elim), HS.out.2.2.2.1.keeps hk0 (fun _ h => h.elim), HS.out.2.2.2.2.1, HS.out.2.2.2.2.2⟩)
      have HK1 := hid (HK.out.trans hk0)
      have hnx : ¬ At pq wr.heap.size ∧ ¬ At pr wr.heap.size := ⟨fun h => by have := HS.out.1.lt _ h; omega, fun h => by have := HS.out.2.1.lt _ h; omega⟩
      have HNX := hid hnx; clear hnx
      have HBX := hid (show (wr.alloc (.cells #[.int .u8 d, .int .i64 u, .int .i64 g, .int .i64 n] 44)).heap[wr.heap.size]? = _ from alloc_new)
      clear hk0 HS HK
      have hap : ∀ y, At pq y ∨ At pr y → w.heap.size ≤ y := fun y hy => Nat.le_trans HN.out (hy.elim (HS1.out.2.2.2.2.1 y) (HS1.out.2.2.2.2.2 y))
      have HAP := hid hap; clear hap
      by_cases hd : d % 4 = 0 ∨ d % 4 = 1
      · have hd' : ((d % 4 == 0) = true) ∨ ((d % 4 == 0) = false ∧ (d % 4 == 1) = true) := by
          rcases hd with h | h
          · exact .inl (by simp [h])
          · exact .inr ⟨by simp [h], by simp [h]⟩
        clear hd
        rcases hd' with hd | ⟨hd, hd1⟩
        all_goals
          go_wp2_with fail
          go_region_held3 (fun w' => w'.cell? ⟨wr.heap.size, 1, none⟩ = some (.int .i64 u) ∧ w'.cell? ⟨wr.heap.size, 2, none⟩ = some (.int .i64 g) ∧ w'.cell? ⟨wr.heap.size, 3, none⟩ = some (.int .i64 n))
            (first
              | go_keep
              | exact hx4
              | exact hx3)
            (first
              | (go_at_call 11
                 refine (ask_s pq m u g n s _ (by exact HS1.out.1)).mono ?_
                 rintro e w3 ⟨rfl, hk3, hq3⟩
                 have hbx3 := hid (block_keep HBX.out (((Keeps.refl (At pq) _).drew).trans hk3) HNX.out.1)
                 have hx3 := And.intro (cell_at (i := 1) hbx3.out rfl) (And.intro (cell_at (i := 2) hbx3.out rfl) (cell_at (i := 3) hbx3.out rfl)))
              | (go_at_call 16
                 refine (rask_s pr m u g n s _ (by exact HS1.out.2.1.apart HS1.out.1 (((Keeps.refl _ _).drew).trans hk3))).mono ?_
                 rintro e w4 ⟨rfl, hk4, hr4⟩
                 have hbx4 := hid (block_keep hbx3.out hk4 HNX.out.2)
                 have hx4 := And.intro (cell_at (i := 1) hbx4.out rfl) (And.intro (cell_at (i := 2) hbx4.out rfl) (cell_at (i := 3) hbx4.out rfl))))
          have HS3 := hid (show QS w3 pq m (askS m u g n s).2 ∧ RS w3 pr m s ∧ QSlow w3 po m so N ∧ RSlow w3 pw m so N ∧ Keeps (fun _ => False) w w3 from
            ⟨hq3, HS1.out.2.1.apart HS1.out.1 (((Keeps.refl (At pq) _).drew).trans hk3), HS1.out.2.2.1.keeps (((Keeps.refl (At pq) _).drew).trans hk3) HS1.out.2.2.2.2.1, HS1.out.2.2.2.1.keeps (((Keeps.refl (At pq) _).drew).trans hk3) HS1.out.2.2.2.2.1, HK1.out.trans' (((Keeps.refl (At pq) _).drew).trans hk3) (fun _ _ h => h) (fun y hy h => by have := HAP.out y (.inl h); omega)⟩)
          have HS2 := hid (show QS w4 pq m (askS m u g n s).2 ∧ RS w4 pr m (askS m u g n s).2 ∧ QSlow w4 po m so N ∧ RSlow w4 pw m so N ∧ (∀ y, At pq y → N ≤ y) ∧ (∀ y, At pr y → N ≤ y) from
            ⟨HS3.out.1.apart HS3.out.2.1 hk4, hr4, HS3.out.2.2.1.keeps hk4 HS1.out.2.2.2.2.2, HS3.out.2.2.2.1.keeps hk4 HS1.out.2.2.2.2.2, HS1.out.2.2.2.2.1, HS1.out.2.2.2.2.2⟩)
          have HK2 := hid (HS3.out.2.2.2.2.trans' hk4 (U := fun _ => False) (fun _ _ h => h) (fun y hy h => by have := HAP.out y (.inr h); omega))
          clear hk4 hr4 hk3 hq3 HS1 HS3 hx3 hx4 hbx3 hbx4
          go_wp2_with fail
          refine (hit_s _ _ _ _ HS2.out.1).mono ?_
          rintro e w' ⟨rfl, h'⟩
          obtain rfl := h'.symm
          go_wp2_with fail
          refine (rhit_s _ _ _ _ HS2.out.2.1).mono ?_
          rintro e w' ⟨rfl, h'⟩
          obtain rfl := h'.symm
          go_wp2_with fail
          refine (hit_s _ _ _ _ HS2.out.2.2.1.qs).mono ?_
          rintro e w' ⟨rfl, h'⟩
          obtain rfl := h'.symm
          go_wp2_with fail
          refine (rhit_s _ _ _ _ HS2.out.2.2.2.1.rs).mono ?_
          rintro e w' ⟨rfl, h'⟩
          obtain rfl := h'.symm
          go_wp2_with fail
          refine (most_s _ _ _ _ HS2.out.1).mono ?_
          rintro e w' ⟨rfl, h'⟩
          obtain rfl := h'.symm
          go_wp2_with fail
          refine (rmost_s _ _ _ _ HS2.out.2.1).mono ?_
          rintro e w' ⟨rfl, h'⟩
          obtain rfl := h'.symm
          go_wp2
          go_roundw
          case rel => exact ⟨k + 1, N, _, _, _, _, _, _, by omega, by go_num, rfl, rfl, rfl, rfl, HS2, HN, HK2⟩
          case measure => simp [intOf]; omega
      · have hd0 : (d % 4 == 0) = false := by simp; omega
        have hd1 : (d % 4 == 1) = false := by simp; omega
        by_cases hd2' : d % 4 = 2
        · have hd2 : (d % 4 == 2) = true := by simp [hd2']
          clear hd hd2'
          go_wp2_with fail
          refine (eased_s pq m u s _ HS1.out.1).mono ?_
          rintro e w3 ⟨rfl, hk3, hq3⟩
          have HS3 := hid (show QS w3 pq m (easedS m u s) ∧ RS w3 pr m s ∧ QSlow w3 po m so N ∧ RSlow w3 pw m so N ∧ Keeps (fun _ => False) w w3 from
            ⟨hq3, HS1.out.2.1.apart HS1.out.1 hk3, HS1.out.2.2.1.keeps hk3 HS1.out.2.2.2.2.1, HS1.out.2.2.2.1.keeps hk3 HS1.out.2.2.2.2.1, HK1.out.trans' hk3 (fun _ _ h => h) (fun y hy h => by have := HAP.out y (.inl h); omega)⟩)
          have hx3 := cell_at (i := 1) (block_keep HBX.out hk3 HNX.out.1) rfl
          clear hk3 hq3
          go_wp2_with fail
          refine (reased_s pr m u s _ HS3.out.2.1).mono ?_
          rintro e w4 ⟨rfl, hk4, hr4⟩
          have HS2 := hid (show QS w4 pq m (easedS m u s) ∧ RS w4 pr m (easedS m u s) ∧ QSlow w4 po m so N ∧ RSlow w4 pw m so N ∧ (∀ y, At pq y → N ≤ y) ∧ (∀ y, At pr y → N ≤ y) from
            ⟨HS3.out.1.apart HS3.out.2.1 hk4, hr4, HS3.out.2.2.1.keeps hk4 HS1.out.2.2.2.2.2, HS3.out.2.2.2.1.keeps hk4 HS1.out.2.2.2.2.2, HS1.out.2.2.2.2.1, HS1.out.2.2.2.2.2⟩)
          have HK2 := hid (HS3.out.2.2.2.2.trans' hk4 (U := fun _ => False) (fun _ _ h => h) (fun y hy h => by have := HAP.out y (.inr h); omega))
          clear hk4 hr4 HS1 HS3
          go_wp2_with fail
          refine (hit_s _ _ _ _ HS2.out.1).mono ?_
          rintro e w' ⟨rfl, h'⟩
          obtain rfl := h'.symm
          go_wp2_with fail
          refine (rhit_s _ _ _ _ HS2.out.2.1).mono ?_
          rintro e w' ⟨rfl, h'⟩
          obtain rfl := h'.symm
          go_wp2_with fail
          refine (hit_s _ _ _ _ HS2.out.2.2.1.qs).mono ?_
          rintro e w' ⟨rfl, h'⟩
          obtain rfl := h'.symm
          go_wp2_with fail
          refine (rhit_s _ _ _ _ HS2.out.2.2.2.1.rs).mono ?_
          rintro e w' ⟨rfl, h'⟩
          obtain rfl := h'.symm
          go_wp2_with fail
          refine (most_s _ _ _ _ HS2.out.1).mono ?_
          rintro e w' ⟨rfl, h'⟩
          obtain rfl := h'.symm
          go_wp2_with fail
          refine (rmost_s _ _ _ _ HS2.out.2.1).mono ?_
          rintro e w' ⟨rfl, h'⟩
          obtain rfl := h'.symm
          go_wp2
          go_roundw
          case rel => exact ⟨k + 1, N, _, _, _, _, _, _, by omega, by go_num, rfl, rfl, rfl, rfl, HS2, HN, HK2⟩
          case measure => simp [intOf]; omega
        · have hd2 : (d % 4 == 2) = false := by simp; omega
          have hd3 : (d % 4 == 3) = true := by simp; omega
          clear hd hd2'
          go_wp2_with fail
          refine (copy_s pq m s _ HS1.out.1).mono ?_
          rintro e w3 ⟨pq', rfl, hk3, hq3, hp3⟩
          have HS3 := hid (show QS w3 pq m s ∧ RS w3 pr m s ∧ QS w3 pq' m s ∧ Keeps (fun _ => False) w w3 ∧ (wr.heap.size + 1 ≤ w3.heap.size) from ⟨HS1.out.1.same hk3, HS1.out.2.1.same hk3, hq3, HK1.out.trans hk3, by have := hk3.size; simpa using this⟩)
          have HL3 := hid (show QSlow w3 pq m s (wr.heap.size + 1) ∧ RSlow w3 pr m s (wr.heap.size + 1) ∧ ∀ y, At pq' y → wr.heap.size + 1 ≤ y from
            ⟨by have := HS1.out.1.low.keeps hk3 (fun _ h => h.elim); simpa using this, by have := HS1.out.2.1.low.keeps hk3 (fun _ h => h.elim); simpa using this, fun y hy => by have := hp3 y hy; simpa using this⟩)
          clear hk3 hq3 hp3
          go_wp2_with fail
          refine (rcopy_s pr m s _ HS3.out.2.1).mono ?_
          rintro e w4 ⟨pr', rfl, hk4, hr4, hp4⟩
          have HS2 := hid (show QS w4 pq' m s ∧ RS w4 pr' m s ∧ QSlow w4 pq m s (wr.heap.size + 1) ∧ RSlow w4 pr m s (wr.heap.size + 1) ∧ (∀ y, At pq' y → wr.heap.size + 1 ≤ y) ∧ (∀ y, At pr' y → wr.heap.size + 1 ≤ y) from
            ⟨HS3.out.2.2.1.same hk4, hr4, HL3.out.1.keeps hk4 (fun _ h => h.elim), HL3.out.2.1.keeps hk4 (fun _ h => h.elim), HL3.out.2.2, fun y hy => Nat.le_trans HS3.out.2.2.2.2 (hp4 y hy)⟩)
          have HK2 := hid (HS3.out.2.2.2.1.trans hk4)
          have HN2 := hid (show w.heap.size ≤ wr.heap.size + 1 by have := HK1.out.size; simpa using this)
          clear hk4 hr4 hp4 HS1 HS3 HL3
          go_wp2_with fail
          refine (hit_s _ _ _ _ HS2.out.1).mono ?_
          rintro e w' ⟨rfl, h'⟩
          obtain rfl := h'.symm
          go_wp2_with fail
          refine (rhit_s _ _ _ _ HS2.out.2.1).mono ?_
          rintro e w' ⟨rfl, h'⟩
          obtain rfl := h'.symm
          go_wp2_with fail
          refine (hit_s _ _ _ _ HS2.out.2.2.1.qs).mono ?_
          rintro e w' ⟨rfl, h'⟩
          obtain rfl := h'.symm
          go_wp2_with fail
          refine (rhit_s _ _ _ _ HS2.out.2.2.2.1.rs).mono ?_
          rintro e w' ⟨rfl, h'⟩
          obtain rfl := h'.symm
          go_wp2_with fail
          refine (most_s _ _ _ _ HS2.out.1).mono ?_
          rintro e w' ⟨rfl, h'⟩
          obtain rfl := h'.symm
          go_wp2_with fail
          refine (rmost_s _ _ _ _ HS2.out.2.1).mono ?_
          rintro e w' ⟨rfl, h'⟩
          obtain rfl := h'.symm
          go_wp2
          go_roundw
          case rel => exact ⟨k + 1, wr.heap.size + 1, _, _, _, _, _, _, by omega, by go_num, rfl, rfl, rfl, rfl, HS2, HN2, HK2⟩
          case measure => simp [intOf]; omega
    · go_wp2_with fail
      refine (works_any _).mono ?_
      rintro e w6 ⟨rfl, hk6⟩
      have HK6 := hid hk6; clear hk6
      go_wp2
      go_ret
      exact ⟨rfl, HK.out.trans HK6.out⟩

theorem quotaPlays_walk {H : Type} {enc : TypeId × Value → H} {r : Reach} {b0 : Nat} (m : Int) (_ : (Lit.int .i64 m).wf = true) (v : Value) (d : DataW H) (p : List MemPlace) {w : World} (hv : Value.okWide Try.prog w r b0 39 v)
    (h : DataW.Trod enc Try.prog w 0 (fun _ => true) true 39 v d p) (w' : World) (hw : w' = w) :
    Calls Try.prog 6 #[.int .i64 m, v] w' fun e w'' => e = .returned (.bool true) ∧ Keeps (fun _ => False) w' w'' := by
  subst hw
  obtain ⟨q, len, cap, rfl, h1, h2, h3⟩ := open_flat_slice (ks := [.int .u8, .int .i64, .int .i64, .int .i64]) Try.underlying39 (by kernel_rfl) (by kernel_rfl) (by decide) hv h
  by_cases hl : len ≤ 100
  · exact quotaPlays_core m q len cap _ hl h3
  · have hl' : (100 : Int) < len := by omega
    clear h h3 hv
    unfold maxLen at h2
    go_enter Try.func6, Try.ntmps6
    go_wp2_with fail
    refine (works_any _).mono ?_
    rintro e w6 ⟨rfl, hk6⟩
    have HK6 := hid hk6; clear hk6
    go_wp2
    go_ret
    exact ⟨rfl, HK6.out⟩

end Go.Proofs.Ytmpfhfabmcpiaaa
