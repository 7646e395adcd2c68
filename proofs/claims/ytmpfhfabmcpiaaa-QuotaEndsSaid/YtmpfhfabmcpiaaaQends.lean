/- estraylaw35.QuotaEnds: the walk. -/
import Derived.Test.YtmpfhfabmcpiaaaQtE
namespace Go.Proofs.Ytmpfhfabmcpiaaa
open Go.RowKit

set_option maxRecDepth 100000 in
set_option maxHeartbeats 4000000 in
theorem quotaEnds_walk (w : World) : Calls Try.prog 5 #[] w fun e w' => e = .returned (.bool true) ∧ Keeps (fun _ => False) w w' := by
  go_enter Try.func5, Try.ntmps5
  go_wp2_with fail
  obtain ⟨W0, hW0⟩ : ∃ W0 : World, W0 = w.alloc (.cells #[.int .i64 0, .int .i64 257, .int .i64 (-1)] 3) := ⟨_, rfl⟩
  have hb0 : W0.heap[w.heap.size]? = some (.cells #[.int .i64 0, .int .i64 257, .int .i64 (-1)] 3) := by rw [hW0]; exact alloc_new
  have hk0 : Keeps (fun _ => False) w W0 := by rw [hW0]; exact ((Keeps.refl _ _).alloc _)
  rw [← hW0]
  clear hW0
  have HB0 := hid hb0
  have HK0 := hid hk0
  clear hb0 hk0
  go_loopw [11] (fun i wr => ∃ k : Nat, k ≤ 3 ∧ i = .int .i64 k ∧ W0 = wr) (fun i _ => 3 - (intOf i).toNat)
  case atStart => exact ⟨0, by omega, rfl, rfl⟩
  case round =>
    obtain ⟨k, hk, rfl, rfl⟩ := hrel
    by_cases hlt : k < 3
    · obtain ⟨v, hcell, hv⟩ : ∃ v : Int, W0.cell? ⟨w.heap.size, k, none⟩ = some (.int .i64 v) ∧ (v < 1 ∨ 256 < v) := by
        match k, hlt with
        | 0, _ => exact ⟨_, cell_at HB0.out rfl, by omega⟩
        | 1, _ => exact ⟨_, cell_at HB0.out rfl, by omega⟩
        | 2, _ => exact ⟨_, cell_at HB0.out rfl, by omega⟩
      have HV := hid hv; clear hv
      go_wp2_with fail
      refine (new_bad v _ HV.out).mono ?_
      rintro e w' ⟨rfl, h'⟩
      obtain rfl := h'.symm
      go_wp2
      go_roundw
      case rel => exact ⟨k + 1, by omega, by go_num, trivial⟩
      case measure => simp [intOf]; omega
    · go_wp2_with fail
      refine (new_ok 256 W0 (by omega) (by omega)).mono ?_
      rintro e w1 ⟨rfl, hk1, hq⟩
      have HQ := hid hq
      have HK := hid (hk1.mono (T := (· = W0.heap.size)) (fun _ _ h => h.elim))
      have hl := hk1.size
      clear hk1 hq
      go_wp2_with fail
      refine (most_ok _ 256 none _ HQ.out (by decide)).mono ?_
      rintro e w' ⟨rfl, h'⟩
      obtain rfl := h'.symm
      go_wp2_with fail
      refine (ask_step _ 256 255 1099511627776 1099511627776 none 0 none _ HQ.out (by decide) (by decide)).mono ?_
      rintro e w2 ⟨rfl, hk2, hq2⟩
      have HQ2 := hid hq2
      have HK2 := hid (HK.out.trans hk2)
      clear hk2 hq2 HK HQ
      go_wp2_with fail
      refine (ask_step _ 256 256 1099511627777 1099511627776 none 13 (some 1099511627778) _ HQ2.out (by decide) (by decide)).mono ?_
      rintro e w3 ⟨rfl, hk3, hq3⟩
      have HQ3 := hid hq3
      have HK3 := hid (HK2.out.trans hk3)
      clear hk3 hq3 HK2 HQ2
      go_wp2_with fail
      refine (hit_ok _ 256 (some 1099511627778) _ HQ3.out (by decide)).mono ?_
      rintro e w' ⟨rfl, h'⟩
      obtain rfl := h'.symm
      simp only [hitV]
      go_wp2_with fail
      refine (ask_step _ 256 256 1099511627778 1099511627777 (some 1099511627778) 2 (some 1099511627778) _ HQ3.out (by decide) (by decide)).mono ?_
      rintro e w4 ⟨rfl, hk4, hq4⟩
      have HQ4 := hid hq4
      have HK4 := hid (HK3.out.trans hk4)
      clear hk4 hq4 HK3 HQ3
      go_wp2_with fail
      refine (ask_step _ 256 256 4611686018427387904 4611686018427387904 (some 1099511627778) 2 (some 1099511627778) _ HQ4.out (by decide) (by decide)).mono ?_
      rintro e w5 ⟨rfl, hk5, hq5⟩
      have HK5 := hid (HK4.out.trans hk5)
      clear hk5 hq5 HK4 HQ4
      go_wp2_with fail
      refine (works_any _).mono ?_
      rintro e w6 ⟨rfl, hk6⟩
      have HK6 := hid hk6; clear hk6
      go_wp2
      go_ret
      exact ⟨rfl, (HK0.out.trans (HK5.out.mono (fun x hx e => by omega))).trans HK6.out⟩

end Go.Proofs.Ytmpfhfabmcpiaaa
