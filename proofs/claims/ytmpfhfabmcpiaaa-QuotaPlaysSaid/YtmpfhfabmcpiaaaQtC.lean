/- Package quota: the contracts of Eased, Hit, Most, New, Copy. -/
import Derived.Test.YtmpfhfabmcpiaaaQtB
namespace Go.Proofs.Ytmpfhfabmcpiaaa
open Go.RowKit

theorem eased_same (pv : Option Addr) (r : Bool) (u : Int) (w : World) (hm : Mk w pv r) (hu : r = false ∨ u < 0) :
    Calls Try.prog 10 #[.pointer pv, .int .i64 u] w fun e w' => e = .returned (.tuple #[]) ∧ w' = w := by
  rcases hu with rfl | hu
  · have HM := hid hm; clear hm
    go_enter Try.func10, Try.ntmps10
    go_wp2_with fail
    refine (made_any pv false w HM.out).mono ?_
    rintro e w' ⟨rfl, rfl⟩
    go_wp2
    go_end0
    exact ⟨rfl, rfl⟩
  · have HM := hid hm; clear hm
    go_enter Try.func10, Try.ntmps10
    go_wp2_with fail
    refine (made_any pv r w HM.out).mono ?_
    rintro e w' ⟨rfl, rfl⟩
    cases r
    · go_wp2
      go_end0
      exact ⟨rfl, rfl⟩
    · go_wp2
      go_end0
      exact ⟨rfl, rfl⟩

theorem eased_out (b : Nat) (m u : Int) (c : Option Int) (w : World) (h : QtAt w b m c) (hm : 0 < m) (hu : ¬ u < m) :
    Calls Try.prog 10 #[.pointer (some ⟨b, 0, none⟩), .int .i64 u] w fun e w' => e = .returned (.tuple #[]) ∧ w' = w := by
  have hc := h.cell
  have HM := hid (h.mk hm); clear h
  go_enter Try.func10, Try.ntmps10
  go_wp2_with fail
  refine (made_any _ true w HM.out).mono ?_
  rintro e w' ⟨rfl, rfl⟩
  go_wp2
  go_end0
  exact ⟨rfl, rfl⟩

theorem eased_in (b : Nat) (m u : Int) (c : Option Int) (w : World) (h : QtAt w b m c) (hm : 0 ≤ u) (hu : u < m) :
    Calls Try.prog 10 #[.pointer (some ⟨b, 0, none⟩), .int .i64 u] w fun e w' => e = .returned (.tuple #[]) ∧ Keeps (· = b) w w' ∧ QtAt w' b m none := by
  have hc := h.cell
  have HM := hid (h.mk (by omega))
  obtain ⟨p, hb, h'⟩ := h; clear h'
  have hc1 := cell_at (i := 1) hb rfl
  have hf := frozen_block hb 1
  have HB := hid hb
  clear hb
  go_enter Try.func10, Try.ntmps10
  go_wp2_with fail
  refine (made_any _ true w HM.out).mono ?_
  rintro e w' ⟨rfl, rfl⟩
  go_wp2
  go_end0
  exact ⟨rfl, (Keeps.refl (· = b) _).setCell (p := ⟨b, 1, none⟩) (.inl rfl) _, _, set_block HB.out 1 _, .inl ⟨rfl, rfl⟩⟩

theorem hit_nil (pv : Option Addr) (w : World) (hm : Mk w pv false) :
    Calls Try.prog 12 #[.pointer pv] w fun e w' => e = .returned (.tuple #[.int .i64 0, .bool false]) ∧ w' = w := by
  have HM := hid hm; clear hm
  go_enter Try.func12, Try.ntmps12
  go_wp2_with fail
  refine (made_any pv false w HM.out).mono ?_
  rintro e w' ⟨rfl, rfl⟩
  go_wp2
  go_ret2
  exact ⟨rfl, rfl⟩

/-- what Hit answers -/
def hitV (c : Option Int) : Value := match c with | none => .tuple #[.int .i64 0, .bool false] | some k => .tuple #[.int .i64 k, .bool true]

theorem hit_ok (b : Nat) (m : Int) (c : Option Int) (w : World) (h : QtAt w b m c) (hm : 0 < m) :
    Calls Try.prog 12 #[.pointer (some ⟨b, 0, none⟩)] w fun e w' => e = .returned (hitV c) ∧ w' = w := by
  have HM := hid (h.mk hm)
  obtain ⟨p, hb, h'⟩ := h
  have hc1 := cell_at (i := 1) hb rfl
  clear hb
  rcases h' with ⟨rfl, rfl⟩ | ⟨x, n, rfl, rfl, _, hx⟩
  · go_enter Try.func12, Try.ntmps12
    go_wp2_with fail
    refine (made_any _ true w HM.out).mono ?_
    rintro e w' ⟨rfl, rfl⟩
    go_wp2
    go_ret2
    exact ⟨rfl, rfl⟩
  · have hc2 := cell_block hx 0
    clear hx
    go_enter Try.func12, Try.ntmps12
    go_wp2_with fail
    refine (made_any _ true w HM.out).mono ?_
    rintro e w' ⟨rfl, rfl⟩
    go_wp2
    go_ret2
    exact ⟨rfl, rfl⟩

theorem most_nil (pv : Option Addr) (w : World) (hm : Mk w pv false) :
    Calls Try.prog 14 #[.pointer pv] w fun e w' => e = .returned (.int .i64 0) ∧ w' = w := by
  have HM := hid hm; clear hm
  go_enter Try.func14, Try.ntmps14
  go_wp2_with fail
  refine (made_any pv false w HM.out).mono ?_
  rintro e w' ⟨rfl, rfl⟩
  go_wp2
  go_ret
  exact ⟨rfl, rfl⟩

theorem most_ok (b : Nat) (m : Int) (c : Option Int) (w : World) (h : QtAt w b m c) (hm : 0 < m) :
    Calls Try.prog 14 #[.pointer (some ⟨b, 0, none⟩)] w fun e w' => e = .returned (.int .i64 m) ∧ w' = w := by
  have HM := hid (h.mk hm)
  have hc := h.cell
  clear h
  go_enter Try.func14, Try.ntmps14
  go_wp2_with fail
  refine (made_any _ true w HM.out).mono ?_
  rintro e w' ⟨rfl, rfl⟩
  go_wp2
  go_ret
  exact ⟨rfl, rfl⟩

theorem new_bad (m : Int) (w : World) (h : m < 1 ∨ 256 < m) :
    Calls Try.prog 9 #[.int .i64 m] w fun e w' => e = .returned (.tuple #[.pointer none, .int .i64 2]) ∧ w' = w := by
  by_cases h1 : m < 1
  · go_enter Try.func9, Try.ntmps9
    go_wp2
    go_ret2
    exact ⟨rfl, rfl⟩
  · have h2 : 256 < m := by omega
    clear h
    go_enter Try.func9, Try.ntmps9
    go_wp2
    go_ret2
    exact ⟨rfl, rfl⟩

theorem new_ok (m : Int) (w : World) (h1 : 1 ≤ m) (h2 : m ≤ 256) :
    Calls Try.prog 9 #[.int .i64 m] w fun e w' => e = .returned (.tuple #[.pointer (some ⟨w.heap.size, 0, none⟩), .int .i64 0]) ∧ Keeps (fun _ => False) w w' ∧ QtAt w' w.heap.size m none := by
  go_enter Try.func9, Try.ntmps9
  go_wp2
  go_ret2
  exact ⟨rfl, (Keeps.refl _ _).alloc _, _, alloc_new, .inl ⟨rfl, rfl⟩⟩

theorem copy_nil (pv : Option Addr) (w : World) (hm : Mk w pv false) :
    Calls Try.prog 18 #[.pointer pv] w fun e w' => e = .returned (.pointer none) ∧ w' = w := by
  have HM := hid hm; clear hm
  go_enter Try.func18, Try.ntmps18
  go_wp2_with fail
  refine (made_any pv false w HM.out).mono ?_
  rintro e w' ⟨rfl, rfl⟩
  go_wp2
  go_ret
  exact ⟨rfl, rfl⟩

theorem copy_ok (b : Nat) (m : Int) (c : Option Int) (w : World) (h : QtAt w b m c) (hm : 0 < m) :
    Calls Try.prog 18 #[.pointer (some ⟨b, 0, none⟩)] w fun e w' => e = .returned (.pointer (some ⟨w.heap.size, 0, none⟩)) ∧ Keeps (fun _ => False) w w' ∧ QtAt w' w.heap.size m c := by
  have HM := hid (h.mk hm)
  have hc0 := h.cell
  obtain ⟨p, hb, h'⟩ := h
  have hl := lt_block hb
  have hc1 := cell_at (i := 1) hb rfl
  clear hb
  rcases h' with ⟨rfl, rfl⟩ | ⟨x, n, rfl, rfl, _, hx⟩
  · go_enter Try.func18, Try.ntmps18
    go_wp2_with fail
    refine (made_any _ true w HM.out).mono ?_
    rintro e w' ⟨rfl, rfl⟩
    go_wp2
    go_ret
    exact ⟨rfl, (Keeps.refl _ _).alloc _, _, alloc_new, .inl ⟨rfl, rfl⟩⟩
  · have hc2 := cell_block hx 0
    have hl2 := lt_block hx
    clear hx
    go_enter Try.func18, Try.ntmps18
    go_wp2_with fail
    refine (made_any _ true w HM.out).mono ?_
    rintro e w' ⟨rfl, rfl⟩
    go_wp2
    go_ret
    refine ⟨rfl, ((Keeps.refl _ _).alloc _).alloc _, _, alloc_old alloc_new, .inr ⟨_, _, rfl, rfl, by omega, alloc_new' (by simp)⟩⟩

end Go.Proofs.Ytmpfhfabmcpiaaa
