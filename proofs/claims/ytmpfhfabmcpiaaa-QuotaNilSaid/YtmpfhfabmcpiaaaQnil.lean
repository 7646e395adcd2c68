/- estraylaw35.QuotaNil: the walk. -/
import Derived.Test.YtmpfhfabmcpiaaaQtE
namespace Go.Proofs.Ytmpfhfabmcpiaaa
open Go.RowKit

set_option maxRecDepth 100000 in
set_option maxHeartbeats 4000000 in
theorem quotaNil_walk (u : Int) (_ : (Lit.int .i64 u).wf = true) (g : Int) (_ : (Lit.int .i64 g).wf = true) (n : Int) (_ : (Lit.int .i64 n).wf = true) (w : World) : Calls Try.prog 7 #[.int .i64 u, .int .i64 g, .int .i64 n] w fun e w' => e = .returned (.bool true) ∧ Keeps (fun _ => False) w w' := by
  go_enter Try.func7, Try.ntmps7
  go_wp2_with fail
  obtain ⟨W0, hW0⟩ : ∃ W0 : World, W0 = (w.alloc (.cells #[.int .i64 0, .pointer none] 50)).alloc (.cells #[.pointer none, .pointer (some ⟨w.heap.size, 0, none⟩)] 23) := ⟨_, rfl⟩
  have hb0 : W0.heap[w.heap.size]? = some (.cells #[.int .i64 0, .pointer none] 50) := by rw [hW0]; exact alloc_old alloc_new
  have hb1 : W0.heap[w.heap.size + 1]? = some (.cells #[.pointer none, .pointer (some ⟨w.heap.size, 0, none⟩)] 23) := by rw [hW0]; exact alloc_new' (by simp)
  have hk0 : Keeps (fun _ => False) w W0 := by rw [hW0]; exact ((Keeps.refl _ _).alloc _).alloc _
  rw [← hW0]
  clear hW0
  have HB0 := hid hb0
  have HB1 := hid hb1
  have HK0 := hid hk0
  clear hb0 hb1 hk0
  go_loopw [17] (fun i wr => ∃ k : Nat, k ≤ 2 ∧ i = .int .i64 k ∧ Keeps (fun _ => False) W0 wr) (fun i _ => 2 - (intOf i).toNat)
  case atStart => exact ⟨0, by omega, rfl, Keeps.refl _ _⟩
  case round =>
    obtain ⟨k, hk, rfl, hkeep⟩ := hrel
    by_cases hlt : k < 2
    · obtain ⟨pv, hcell, hm⟩ : ∃ pv, wr.cell? ⟨w.heap.size + 1, k, none⟩ = some (.pointer pv) ∧ Mk wr pv false := by
        have hb := (hkeep.block _ (lt_block HB1.out) (fun x => x)).trans HB1.out
        match k, hlt with
        | 0, _ => exact ⟨_, cell_at hb rfl, .inl ⟨rfl, rfl⟩⟩
        | 1, _ => exact ⟨_, cell_at hb rfl, .inr ⟨_, 0, rfl, cell_at ((hkeep.block _ (lt_block HB0.out) (fun x => x)).trans HB0.out) rfl, rfl⟩⟩
      have HM := hid hm; clear hm
      have HK := hid hkeep; clear hkeep
      go_wp2_with fail
      refine (eased_same pv false u wr HM.out (.inl rfl)).mono ?_
      rintro e w' ⟨rfl, h'⟩
      obtain rfl := h'.symm
      go_wp2_with fail
      refine (hit_nil pv _ HM.out).mono ?_
      rintro e w' ⟨rfl, h'⟩
      obtain rfl := h'.symm
      go_wp2_with fail
      refine (ask_bad pv false u g n _ HM.out 1 rfl (.inl rfl)).mono ?_
      rintro e w1 ⟨rfl, hk1⟩
      have HK1 := hid hk1; clear hk1
      go_wp2_with fail
      refine (most_nil pv _ (HM.out.keeps HK1.out)).mono ?_
      rintro e w' ⟨rfl, h'⟩
      obtain rfl := h'.symm
      go_wp2_with fail
      refine (copy_nil pv _ (HM.out.keeps HK1.out)).mono ?_
      rintro e w' ⟨rfl, h'⟩
      obtain rfl := h'.symm
      go_wp2
      go_roundw
      case rel => exact ⟨k + 1, by omega, by go_num, HK.out.trans HK1.out⟩
      case measure => simp [intOf]; omega
    · have HK := hid hkeep; clear hkeep
      go_wp2_with fail
      refine (works_any _).mono ?_
      rintro e w1 ⟨rfl, hk1⟩
      have HK1 := hid hk1; clear hk1
      go_wp2
      go_ret
      exact ⟨rfl, (HK0.out.trans HK.out).trans HK1.out⟩

end Go.Proofs.Ytmpfhfabmcpiaaa
