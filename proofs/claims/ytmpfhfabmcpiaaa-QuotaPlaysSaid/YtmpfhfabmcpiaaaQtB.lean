/- Package quota: contracts of made, hits, and of the closures of Ask. -/
import Derived.Test.YtmpfhfabmcpiaaaBase
namespace Go.Proofs.Ytmpfhfabmcpiaaa
open Go.RowKit

/-- whether there is a quota behind a pointer -/
def Mk (w : World) (pv : Option Addr) (r : Bool) : Prop :=
  (pv = none ∧ r = false) ∨ ∃ b m, pv = some ⟨b, 0, none⟩ ∧ w.cell? ⟨b, 0, none⟩ = some (.int .i64 m) ∧ r = decide (0 < m)

theorem Mk.alloc {w : World} {pv : Option Addr} {r : Bool} (h : Mk w pv r) (o : Obj) : Mk (w.alloc o) pv r := by
  rcases h with h | ⟨b, m, h1, h2, h3⟩
  · exact .inl h
  · exact .inr ⟨b, m, h1, by rw [World.cell?_alloc_lt _ _ _ (World.block_lt_of_cell? _ _ h2)]; exact h2, h3⟩

theorem Mk.keeps {w w' : World} {pv : Option Addr} {r : Bool} (h : Mk w pv r) (hk : Keeps (fun _ => False) w w') : Mk w' pv r := by
  rcases h with h | ⟨b, m, h1, h2, h3⟩
  · exact .inl h
  · exact .inr ⟨b, m, h1, by rw [World.cell?_of_block (w := w) (hk.block b (World.block_lt_of_cell? _ _ h2) (fun x => x))]; exact h2, h3⟩

theorem made_any (pv : Option Addr) (r : Bool) (w : World) (h : Mk w pv r) :
    Calls Try.prog 22 #[.pointer pv] w fun e w' => e = .returned (.bool r) ∧ w' = w := by
  rcases h with ⟨rfl, rfl⟩ | ⟨b, m, rfl, h2, rfl⟩
  · go_enter Try.func22, Try.ntmps22
    go_wp2
    go_ret
    exact ⟨rfl, rfl⟩
  · go_enter Try.func22, Try.ntmps22
    go_wp2
    go_ret
    exact ⟨rfl, rfl⟩

theorem ask1_any (bq : Nat) (pv : Option Addr) (r : Bool) (w : World) (hc : w.cell? ⟨bq, 0, none⟩ = some (.pointer pv)) (hm : Mk w pv r) :
    Calls Try.prog 24 #[.pointer (some ⟨bq, 0, none⟩)] w fun e w' => e = .returned (.bool (!r)) ∧ w' = w := by
  have HM := hid hm; clear hm
  go_enter Try.func24, Try.ntmps24
  go_wp2_with fail
  refine (made_any pv r w HM.out).mono ?_
  rintro e w' ⟨rfl, rfl⟩
  go_wp2
  go_ret
  exact ⟨rfl, rfl⟩

/-- numbers that are refused -/
def bad2 (u n : Int) : Bool := decide (u < 0 ∨ n < 0 ∨ 1099511627776 < n)
def bad3 (g n : Int) : Bool := decide (g ≠ n ∧ g ≠ n + 1)

theorem ask2_any (bu be : Nat) (u n : Int) (w : World) (hu : w.cell? ⟨bu, 0, none⟩ = some (.int .i64 u)) (hn : w.cell? ⟨be, 0, none⟩ = some (.int .i64 n)) :
    Calls Try.prog 25 #[.pointer (some ⟨bu, 0, none⟩), .pointer (some ⟨be, 0, none⟩)] w fun e w' =>
      e = .returned (.bool (bad2 u n)) ∧ w' = w := by
  by_cases h1 : u < 0
  · go_enter Try.func25, Try.ntmps25
    go_wp2
    go_ret
    exact ⟨ret_bool (by unfold bad2; exact (decide_eq_true (by omega)).symm), rfl⟩
  by_cases h2 : n < 0
  · go_enter Try.func25, Try.ntmps25
    go_wp2
    go_ret
    exact ⟨ret_bool (by unfold bad2; exact (decide_eq_true (by omega)).symm), rfl⟩
  go_enter Try.func25, Try.ntmps25
  go_wp2
  go_ret
  exact ⟨ret_bool (by unfold bad2; exact decide_eq_decide.2 (by omega)), rfl⟩

theorem ask3_any (bu be : Nat) (g n : Int) (w : World) (h0 : 0 ≤ n) (h1 : n ≤ 1099511627776) (hu : w.cell? ⟨bu, 0, none⟩ = some (.int .i64 g)) (hn : w.cell? ⟨be, 0, none⟩ = some (.int .i64 n)) :
    Calls Try.prog 26 #[.pointer (some ⟨bu, 0, none⟩), .pointer (some ⟨be, 0, none⟩)] w fun e w' =>
      e = .returned (.bool (bad3 g n)) ∧ w' = w := by
  by_cases h2 : g = n
  · have h2' : (g != n) = false := by simp [h2]
    have H2 := hid h2; clear h2
    go_enter Try.func26, Try.ntmps26
    go_wp2
    go_ret
    have h2 := H2.out
    exact ⟨ret_bool (by unfold bad3; exact (decide_eq_false (by omega)).symm), rfl⟩
  · have h2' : (g != n) = true := by simp [h2]
    have H2 := hid h2; clear h2
    go_enter Try.func26, Try.ntmps26
    go_wp2
    go_ret
    have h2 := H2.out
    exact ⟨ret_bool (by unfold bad3; rw [Bool.eq_iff_iff]; simp; omega), rfl⟩

theorem ask4_any (bu bq b : Nat) (u m : Int) (w : World) (hu : w.cell? ⟨bu, 0, none⟩ = some (.int .i64 u)) (hq : w.cell? ⟨bq, 0, none⟩ = some (.pointer (some ⟨b, 0, none⟩))) (hm : w.cell? ⟨b, 0, none⟩ = some (.int .i64 m)) :
    Calls Try.prog 27 #[.pointer (some ⟨bu, 0, none⟩), .pointer (some ⟨bq, 0, none⟩)] w fun e w' =>
      e = .returned (.bool (decide (u < m))) ∧ ∃ n, w' = w.drewN n := by
  go_enter Try.func27, Try.ntmps27
  go_wp2
  go_quiet (fail)
  go_wp2
  go_ret
  exact ⟨rfl, _, rfl⟩

/-- a quota in memory: the block, the quota's number, the cycle that has to end -/
def QtAt (w : World) (b : Nat) (m : Int) (c : Option Int) : Prop :=
  ∃ p : Option Addr, w.heap[b]? = some (.cells #[.int .i64 m, .pointer p] 50) ∧
    ((c = none ∧ p = none) ∨ ∃ x n, c = some n ∧ p = some ⟨x, 0, none⟩ ∧ x ≠ b ∧ w.heap[x]? = some (.cells #[.int .i64 n] 3))

theorem QtAt.lt {w : World} {b : Nat} {m : Int} {c : Option Int} (h : QtAt w b m c) : b < w.heap.size := by
  obtain ⟨p, h, _⟩ := h; exact lt_block h

theorem QtAt.cell {w : World} {b : Nat} {m : Int} {c : Option Int} (h : QtAt w b m c) : w.cell? ⟨b, 0, none⟩ = some (.int .i64 m) := by
  obtain ⟨p, h, _⟩ := h; exact cell_block h 0

theorem QtAt.mk {w : World} {b : Nat} {m : Int} {c : Option Int} (h : QtAt w b m c) (hm : 0 < m) : Mk w (some ⟨b, 0, none⟩) true :=
  .inr ⟨b, m, rfl, h.cell, by simp [hm]⟩

/-- the cell of the cycle may change its owner's block alone: everything but the block itself stands -/
theorem QtAt.keeps {w w' : World} {b : Nat} {m : Int} {c : Option Int} (h : QtAt w b m c) (hk : Keeps (fun _ => False) w w') : QtAt w' b m c := by
  obtain ⟨p, h, h'⟩ := h
  refine ⟨p, by rw [hk.block b (lt_block h) (fun x => x)]; exact h, ?_⟩
  rcases h' with h' | ⟨x, n, h1, h2, h3, h4⟩
  · exact .inl h'
  · exact .inr ⟨x, n, h1, h2, h3, by rw [hk.block x (lt_block h4) (fun x => x)]; exact h4⟩

theorem QtAt.hi {w w' : World} {b : Nat} {m : Int} {c : Option Int} {N : Nat} (h : QtAt w b m c) (hk : Keeps (fun y => N ≤ y) w w') (hN : w.heap.size ≤ N) : QtAt w' b m c := by
  obtain ⟨p, h, h'⟩ := h
  refine ⟨p, by rw [hk.block b (lt_block h) (fun x => by have := lt_block h; omega)]; exact h, ?_⟩
  rcases h' with h' | ⟨x, n, h1, h2, h3, h4⟩
  · exact .inl h'
  · exact .inr ⟨x, n, h1, h2, h3, by rw [hk.block x (lt_block h4) (fun y => by have := lt_block h4; omega)]; exact h4⟩

theorem hits_yes (b : Nat) (g m : Int) (w : World) (h0 : 0 ≤ g) (h1 : g ≤ 1099511627777) (h : QtAt w b m none) :
    Calls Try.prog 29 #[.pointer (some ⟨b, 0, none⟩), .int .i64 g] w fun e w' => e = .returned (.bool true) ∧
      Keeps (· = b) w w' ∧ QtAt w' b m (some (g + 1)) := by
  obtain ⟨p, hb, h'⟩ := h
  obtain rfl : p = none := by rcases h' with h' | ⟨x, n, h1, _⟩; exact h'.2; cases h1
  have hc := cell_block hb 1
  have hf := frozen_block hb 1
  have hl := lt_block hb
  have HB := hid hb
  clear hb h'
  simp only [List.getElem?_toArray, List.getElem?_cons_succ, List.getElem?_cons_zero] at hc
  go_enter Try.func29, Try.ntmps29
  go_wp2
  go_ret
  refine ⟨rfl, ((Keeps.refl (· = b) _).setCell (p := ⟨b, 1, none⟩) (.inl rfl) _).alloc _, _, alloc_old (set_block HB.out 1 _), .inr ⟨_, _, rfl, rfl, by omega, ?_⟩⟩
  have := @alloc_new (w.setCell ⟨b, 1, none⟩ (.pointer (some ⟨w.heap.size, 0, none⟩))) (.cells #[.int .i64 (g + 1)] 3)
  simpa using this

theorem hits_no (b : Nat) (g m k : Int) (w : World) (h : QtAt w b m (some k)) :
    Calls Try.prog 29 #[.pointer (some ⟨b, 0, none⟩), .int .i64 g] w fun e w' => e = .returned (.bool false) ∧ w' = w := by
  obtain ⟨p, hb, h'⟩ := h
  obtain ⟨x, rfl⟩ : ∃ x, p = some ⟨x, 0, none⟩ := by rcases h' with h' | ⟨x, n, _, h2, _⟩; cases h'.1; exact ⟨x, h2⟩
  have hc := cell_block hb 1
  clear hb h'
  simp only [List.getElem?_toArray, List.getElem?_cons_succ, List.getElem?_cons_zero] at hc
  go_enter Try.func29, Try.ntmps29
  go_wp2
  go_ret
  exact ⟨rfl, rfl⟩

set_option maxHeartbeats 1000000 in
theorem ask5_yes (bq bg be b : Nat) (g m : Int) (w : World) (h0 : 0 ≤ g) (h1 : g ≤ 1099511627777) (h : QtAt w b m none)
    (hq : w.cell? ⟨bq, 0, none⟩ = some (.pointer (some ⟨b, 0, none⟩))) (hg : w.cell? ⟨bg, 0, none⟩ = some (.int .i64 g)) :
    Calls Try.prog 28 #[.pointer (some ⟨bq, 0, none⟩), .pointer (some ⟨bg, 0, none⟩), .pointer (some ⟨be, 0, none⟩)] w fun e w' => e = .returned (.bool true) ∧
      Keeps (· = b) w w' ∧ QtAt w' b m (some (g + 1)) := by
  have HB := hid h; clear h
  go_enter Try.func28, Try.ntmps28
  go_wp2
  go_region_with (go_at_call 29; refine (hits_yes b g m _ h0 h1 (by exact HB.out)).mono ?_; rintro e w' ⟨rfl, hk, hq'⟩)
  all_goals
    go_wp2
    go_ret
    exact ⟨rfl, ((Keeps.refl _ _).drew).trans hk, hq'⟩

theorem ask5_no (bq bg be b : Nat) (g m k n : Int) (w : World) (h : QtAt w b m (some k))
    (hq : w.cell? ⟨bq, 0, none⟩ = some (.pointer (some ⟨b, 0, none⟩))) (hg : w.cell? ⟨bg, 0, none⟩ = some (.int .i64 g)) (he : w.cell? ⟨be, 0, none⟩ = some (.int .i64 n)) :
    Calls Try.prog 28 #[.pointer (some ⟨bq, 0, none⟩), .pointer (some ⟨bg, 0, none⟩), .pointer (some ⟨be, 0, none⟩)] w fun e w' => e = .returned (.bool (decide (n < k))) ∧
      ∃ n, w' = w.drewN n := by
  obtain ⟨p, hb, h'⟩ := id h
  obtain ⟨x, rfl, hx⟩ : ∃ x, p = some ⟨x, 0, none⟩ ∧ w.cell? ⟨x, 0, none⟩ = some (.int .i64 k) := by
    rcases h' with h' | ⟨x, n, h1, h2, _, h4⟩
    · cases h'.1
    · cases h1; exact ⟨x, h2, cell_block h4 0⟩
  have hc := cell_block hb 1
  clear hb h'
  simp only [List.getElem?_toArray, List.getElem?_cons_succ, List.getElem?_cons_zero] at hc
  have HB := hid h; clear h
  go_enter Try.func28, Try.ntmps28
  go_wp2
  go_quiet ((go_at_call 29; exact Calls.quiet_of_same (hits_no b g m k _ (by exact HB.out))))
  go_wp2
  go_ret
  exact ⟨rfl, _, rfl⟩

end Go.Proofs.Ytmpfhfabmcpiaaa
