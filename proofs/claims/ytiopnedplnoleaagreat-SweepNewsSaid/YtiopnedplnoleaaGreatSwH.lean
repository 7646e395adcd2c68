/- estraylaw25.SweepNews: the walk. -/
import Derived.Test.YtiopnedplnoleaaGreatNgE
namespace Go.Proofs.YtiopnedplnoleaaGreat
open Go.RowKit
set_option linter.unusedVariables false
set_option linter.unusedSimpArgs false

theorem rsnew_bad (n : Int) (w : World) (hn : n < 1 ∨ 256 < n) :
    Calls Tryz.prog 36 #[.int .i64 n] w fun e w' => e = .returned (.tuple #[.pointer none, .int .i64 2]) ∧ Keeps (fun _ => False) w w' := by
  rcases hn with hn | hn
  · go_enter Tryz.func36, Tryz.ntmps36
    go_wp2
    go_ret2
    exact ⟨rfl, Keeps.refl _ _⟩
  · have : ¬ n < 1 := by omega
    go_enter Tryz.func36, Tryz.ntmps36
    go_wp2
    go_ret2
    exact ⟨rfl, Keeps.refl _ _⟩
theorem rsnew_ok (n : Nat) (w : World) (hn : 1 ≤ n) (hn1 : n ≤ 256) :
    Calls Tryz.prog 36 #[.int .i64 n] w fun e w' => e = .returned (.tuple #[.pointer (some ⟨w.heap.size, 0, none⟩), .int .i64 0]) ∧ Keeps (fun _ => False) w w' ∧ w'.heap[w.heap.size]? = some (.cells #[.int .i64 n, .int .i64 n, .int .i64 0] 209) := by
  go_enter Tryz.func36, Tryz.ntmps36
  go_wp2
  go_ret2
  exact ⟨rfl, (Keeps.refl _ _).alloc _, alloc_new⟩
theorem rsat (b : Nat) (n k c : Int) (w : World) (h : w.heap[b]? = some (.cells #[.int .i64 n, .int .i64 k, .int .i64 c] 209)) :
    Calls Tryz.prog 39 #[.pointer (some ⟨b, 0, none⟩)] w fun e w' => e = .returned (.int .i64 k) ∧ w' = w := by
  obtain ⟨c0, c1, c2, cl⟩ := cells3 h
  clear h
  go_enter Tryz.func39, Tryz.ntmps39
  go_wp2
  go_ret
  exact ⟨rfl, rfl⟩

set_option maxRecDepth 100000 in
set_option maxHeartbeats 1000000 in
theorem sweepNews_law (n : Int) (hw : (Lit.int .i64 n).wf = true) (w : World) :
    Calls Tryz.prog 5 #[.int .i64 n] w fun e w' => e = .returned (.bool true) ∧ Keeps (fun _ => False) w w' := by
  by_cases hn : n < 1 ∨ 256 < n
  · have HB := hid (swnew_bad n w hn)
    have HR := hid (rsnew_bad n w hn)
    clear hn
    go_enter Tryz.func5, Tryz.ntmps5
    go_wp2_with fail
    refine (HB.out).mono ?_
    rintro e w' ⟨rfl, h'⟩
    obtain rfl := h'.symm
    go_wp2_with fail
    refine HR.out.mono ?_
    rintro e w1 ⟨rfl, k1⟩
    have HK1 := hid k1
    clear k1
    go_wp2_with fail
    refine (works25 _).mono ?_
    rintro e w2 ⟨rfl, k2⟩
    go_wp2_with fail
    go_ret
    exact ⟨rfl, HK1.out.trans k2⟩
  · obtain ⟨k, rfl⟩ : ∃ k : Nat, n = k := ⟨n.toNat, by omega⟩
    have h1 : 1 ≤ k := by omega
    have h2 : k ≤ 256 := by omega
    clear hn
    go_enter Tryz.func5, Tryz.ntmps5
    go_wp2_with fail
    refine (swnew_ok k w h1 h2).mono ?_
    rintro e w1 ⟨rfl, k1, hs1⟩
    have HK1 := hid k1; have HS1 := hid hs1
    clear k1 hs1
    go_wp2_with fail
    refine (rsnew_ok k w1 h1 h2).mono ?_
    rintro e w2 ⟨rfl, k2, hr2⟩
    have HK2 := hid (HK1.out.trans k2); have HS2 := hid (HS1.out.keeps k2 (fun h => h)); have HR2 := hid hr2
    clear k2 hr2 HS1
    go_wp2_with fail
    refine (show Calls Tryz.prog 37 _ _ (fun e w' => e = .returned (.bool true) ∧ Keeps (fun _ => False) w2 w') from by have := swdone_ok _ _ w2 HS2.out; rwa [show ((Sw.mk k k 0).next == (Sw.mk k k 0).size) = true by simp] at this).mono ?_
    rintro e w3 ⟨rfl, k3⟩
    have HK3 := hid (HK2.out.trans k3); have HS3 := hid (HS2.out.keeps k3 (fun h => h)); have HR3 := hid (block_keep HR2.out k3 (fun h => h))
    clear k3
    go_wp2_with fail
    refine ((swat_ok _ _ w3 HS3.out)).mono ?_
    rintro e w' ⟨rfl, h'⟩
    obtain rfl := h'.symm
    go_wp2_with fail
    refine ((rsat _ _ _ _ w3 HR3.out)).mono ?_
    rintro e w' ⟨rfl, h'⟩
    obtain rfl := h'.symm
    go_wp2_with fail
    refine ((swfreed_ok _ _ w3 HS3.out)).mono ?_
    rintro e w' ⟨rfl, h'⟩
    obtain rfl := h'.symm
    go_wp2_with fail
    refine (works25 _).mono ?_
    rintro e w4 ⟨rfl, k4⟩
    go_wp2_with fail
    go_ret
    exact ⟨rfl, HK3.out.trans k4⟩

end Go.Proofs.YtiopnedplnoleaaGreat
