/- estrayref35: the contracts. -/
import Derived.Test.YtmpfhfabmcpiaaaQlast
namespace Go.Proofs.Ytmpfhfabmcpiaaa
open Go.RowKit

/-- the number that the reference keeps for the cycle -/
def cycN : Option Int → Int | none => 0 | some k => k

/-- a reference's quota in memory -/
def RfAt (w : World) (b : Nat) (m : Int) (c : Option Int) : Prop :=
  w.heap[b]? = some (.cells #[.bool true, .int .i64 m, .int .i64 (cycN c)] 59) ∧ ∀ k, c = some k → 1 ≤ k

theorem RfAt.lt {w : World} {b : Nat} {m : Int} {c : Option Int} (h : RfAt w b m c) : b < w.heap.size := lt_block h.1

theorem RfAt.keeps {w w' : World} {b : Nat} {m : Int} {c : Option Int} {S : Nat → Prop} (h : RfAt w b m c) (hk : Keeps S w w') (hS : ¬ S b) : RfAt w' b m c :=
  ⟨by rw [hk.block b h.lt hS]; exact h.1, h.2⟩

theorem rvalid_nil (w : World) : Calls Try.prog 31 #[.pointer none] w fun e w' => e = .returned (.bool false) ∧ w' = w := by
  go_enter Try.func31, Try.ntmps31
  go_wp2
  go_ret
  exact ⟨rfl, rfl⟩

theorem rvalid_ok (w : World) (b : Nat) (m : Int) (c : Option Int) (h : RfAt w b m c) : Calls Try.prog 31 #[.pointer (some ⟨b, 0, none⟩)] w fun e w' => e = .returned (.bool true) ∧ w' = w := by
  have hc := cell_at (i := 0) h.1 rfl
  clear h
  go_enter Try.func31, Try.ntmps31
  go_wp2
  go_ret
  exact ⟨rfl, rfl⟩

theorem rnew_bad (m : Int) (w : World) (h : m < 1 ∨ 256 < m) :
    Calls Try.prog 15 #[.int .i64 m] w fun e w' => e = .returned (.tuple #[.pointer none, .int .i64 2]) ∧ w' = w := by
  by_cases h1 : m < 1
  · go_enter Try.func15, Try.ntmps15
    go_wp2
    go_ret2
    exact ⟨rfl, rfl⟩
  · have h2 : 256 < m := by omega
    clear h
    go_enter Try.func15, Try.ntmps15
    go_wp2
    go_ret2
    exact ⟨rfl, rfl⟩

theorem rnew_ok (m : Int) (w : World) (h1 : 1 ≤ m) (h2 : m ≤ 256) :
    Calls Try.prog 15 #[.int .i64 m] w fun e w' => e = .returned (.tuple #[.pointer (some ⟨w.heap.size, 0, none⟩), .int .i64 0]) ∧ Keeps (fun _ => False) w w' ∧ RfAt w' w.heap.size m none := by
  go_enter Try.func15, Try.ntmps15
  go_wp2
  go_ret2
  exact ⟨rfl, (Keeps.refl _ _).alloc _, alloc_new, by simp⟩

theorem rcopy_nil (w : World) : Calls Try.prog 19 #[.pointer none] w fun e w' => e = .returned (.pointer none) ∧ w' = w := by
  go_enter Try.func19, Try.ntmps19
  go_wp2_with fail
  refine (rvalid_nil w).mono ?_
  rintro e w' ⟨rfl, rfl⟩
  go_wp2
  go_ret
  exact ⟨rfl, rfl⟩

theorem rcopy_ok (b : Nat) (m : Int) (c : Option Int) (w : World) (h : RfAt w b m c) :
    Calls Try.prog 19 #[.pointer (some ⟨b, 0, none⟩)] w fun e w' => e = .returned (.pointer (some ⟨w.heap.size, 0, none⟩)) ∧ Keeps (fun _ => False) w w' ∧ RfAt w' w.heap.size m c := by
  have h0 := cell_at (i := 0) h.1 rfl
  have h1 := cell_at (i := 1) h.1 rfl
  have h2 := cell_at (i := 2) h.1 rfl
  have H := hid h; clear h
  go_enter Try.func19, Try.ntmps19
  go_wp2_with fail
  refine (rvalid_ok w _ _ _ H.out).mono ?_
  rintro e w' ⟨rfl, rfl⟩
  go_wp2
  go_ret
  exact ⟨rfl, (Keeps.refl _ _).alloc _, alloc_new, H.out.2⟩

theorem rhit_nil (w : World) : Calls Try.prog 20 #[.pointer none] w fun e w' => e = .returned (.tuple #[.int .i64 0, .bool false]) ∧ w' = w := by
  go_enter Try.func20, Try.ntmps20
  go_wp2_with fail
  refine (rvalid_nil w).mono ?_
  rintro e w' ⟨rfl, rfl⟩
  go_wp2
  go_ret2
  exact ⟨rfl, rfl⟩

theorem rhit_ok (b : Nat) (m : Int) (c : Option Int) (w : World) (h : RfAt w b m c) :
    Calls Try.prog 20 #[.pointer (some ⟨b, 0, none⟩)] w fun e w' => e = .returned (.tuple #[.int .i64 (cycN c), .bool c.isSome]) ∧ w' = w := by
  have h2 := cell_at (i := 2) h.1 rfl
  have H := hid h
  rcases c with _ | k
  · clear h
    simp only [cycN] at h2
    go_enter Try.func20, Try.ntmps20
    go_wp2_with fail
    refine (rvalid_ok w _ _ _ H.out).mono ?_
    rintro e w' ⟨rfl, rfl⟩
    go_wp2
    go_ret2
    exact ⟨rfl, rfl⟩
  · have hk : (k == 0) = false := by have := h.2 k rfl; simp; omega
    clear h
    simp only [cycN] at h2
    go_enter Try.func20, Try.ntmps20
    go_wp2_with fail
    refine (rvalid_ok w _ _ _ H.out).mono ?_
    rintro e w' ⟨rfl, rfl⟩
    go_wp2
    go_ret2
    exact ⟨rfl, rfl⟩

theorem rmost_nil (w : World) : Calls Try.prog 21 #[.pointer none] w fun e w' => e = .returned (.int .i64 0) ∧ w' = w := by
  go_enter Try.func21, Try.ntmps21
  go_wp2_with fail
  refine (rvalid_nil w).mono ?_
  rintro e w' ⟨rfl, rfl⟩
  go_wp2
  go_ret
  exact ⟨rfl, rfl⟩

theorem rmost_ok (b : Nat) (m : Int) (c : Option Int) (w : World) (h : RfAt w b m c) :
    Calls Try.prog 21 #[.pointer (some ⟨b, 0, none⟩)] w fun e w' => e = .returned (.int .i64 m) ∧ w' = w := by
  have h1 := cell_at (i := 1) h.1 rfl
  have H := hid h; clear h
  go_enter Try.func21, Try.ntmps21
  go_wp2_with fail
  refine (rvalid_ok w _ _ _ H.out).mono ?_
  rintro e w' ⟨rfl, rfl⟩
  go_wp2
  go_ret
  exact ⟨rfl, rfl⟩

theorem reased_nil (u : Int) (w : World) : Calls Try.prog 17 #[.pointer none, .int .i64 u] w fun e w' => e = .returned (.tuple #[]) ∧ w' = w := by
  go_enter Try.func17, Try.ntmps17
  go_wp2_with fail
  refine (rvalid_nil w).mono ?_
  rintro e w' ⟨rfl, rfl⟩
  go_wp2
  go_end0
  exact ⟨rfl, rfl⟩

theorem reased_step (b : Nat) (m u : Int) (c c' : Option Int) (w : World) (h : RfAt w b m c) (hx : (if 0 ≤ u ∧ u < m then none else c) = c') :
    Calls Try.prog 17 #[.pointer (some ⟨b, 0, none⟩), .int .i64 u] w fun e w' => e = .returned (.tuple #[]) ∧ Keeps (· = b) w w' ∧ RfAt w' b m c' := by
  have h1 := cell_at (i := 1) h.1 rfl
  have h2 := cell_at (i := 2) h.1 rfl
  have hf := frozen_block h.1 2
  have H := hid h
  clear h
  by_cases u0 : 0 ≤ u
  · by_cases u1 : u < m
    · rw [if_pos ⟨u0, u1⟩] at hx; subst hx
      go_enter Try.func17, Try.ntmps17
      go_wp2_with fail
      refine (rvalid_ok w _ _ _ H.out).mono ?_
      rintro e w' ⟨rfl, rfl⟩
      go_wp2
      go_end0
      exact ⟨rfl, (Keeps.refl (· = b) _).setCell (p := ⟨b, 2, none⟩) (.inl rfl) _, set_block H.out.1 2 _, by simp⟩
    · rw [if_neg (by omega)] at hx; subst hx
      go_enter Try.func17, Try.ntmps17
      go_wp2_with fail
      refine (rvalid_ok w _ _ _ H.out).mono ?_
      rintro e w' ⟨rfl, rfl⟩
      go_wp2
      go_end0
      exact ⟨rfl, Keeps.refl _ _, H.out⟩
  · rw [if_neg (by omega)] at hx; subst hx
    go_enter Try.func17, Try.ntmps17
    go_wp2_with fail
    refine (rvalid_ok w _ _ _ H.out).mono ?_
    rintro e w' ⟨rfl, rfl⟩
    go_wp2
    go_end0
    exact ⟨rfl, Keeps.refl _ _, H.out⟩

theorem rask_nil (u g n : Int) (w : World) : Calls Try.prog 16 #[.pointer none, .int .i64 u, .int .i64 g, .int .i64 n] w fun e w' => e = .returned (.int .i64 1) ∧ w' = w := by
  go_enter Try.func16, Try.ntmps16
  go_wp2_with fail
  refine (rvalid_nil w).mono ?_
  rintro e w' ⟨rfl, rfl⟩
  go_wp2
  go_ret
  exact ⟨rfl, rfl⟩

set_option maxHeartbeats 4000000 in
theorem rask_step (b : Nat) (m u g n : Int) (c : Option Int) (x : Int) (c' : Option Int) (w : World) (h : RfAt w b m c) (hx : askR m u g n c = (x, c')) :
    Calls Try.prog 16 #[.pointer (some ⟨b, 0, none⟩), .int .i64 u, .int .i64 g, .int .i64 n] w fun e w' => e = .returned (.int .i64 x) ∧ Keeps (· = b) w w' ∧ RfAt w' b m c' := by
  have h1 := cell_at (i := 1) h.1 rfl
  have h2 := cell_at (i := 2) h.1 rfl
  have hf := frozen_block h.1 2
  have H := hid h
  unfold askR at hx
  by_cases b1 : u < 0 ∨ n < 0 ∨ 1099511627776 < n
  · rw [if_pos b1] at hx
    obtain ⟨rfl, rfl⟩ := Prod.mk.inj hx
    clear h
    rcases (show u < 0 ∨ (0 ≤ u ∧ n < 0) ∨ (0 ≤ u ∧ 0 ≤ n ∧ 1099511627776 < n) by omega) with q | ⟨q, q2⟩ | ⟨q, q2, q3⟩
    all_goals
      clear b1
      go_enter Try.func16, Try.ntmps16
      go_wp2_with fail
      refine (rvalid_ok w _ _ _ H.out).mono ?_
      rintro e w' ⟨rfl, rfl⟩
      go_wp2
      go_ret
      exact ⟨rfl, Keeps.refl _ _, H.out⟩
  rw [if_neg b1] at hx
  have u0 : 0 ≤ u := by omega
  have n0 : 0 ≤ n := by omega
  have n1 : n ≤ 1099511627776 := by omega
  clear b1
  by_cases b2 : g ≠ n ∧ g ≠ n + 1
  · rw [if_pos b2] at hx
    obtain ⟨rfl, rfl⟩ := Prod.mk.inj hx
    have t1 : (g != n) = true := by simp [b2.1]
    have t2 : (g != n + 1) = true := by simp [b2.2]
    clear h b2
    go_enter Try.func16, Try.ntmps16
    go_wp2_with fail
    refine (rvalid_ok w _ _ _ H.out).mono ?_
    rintro e w' ⟨rfl, rfl⟩
    go_wp2
    go_ret
    exact ⟨rfl, Keeps.refl _ _, H.out⟩
  rw [if_neg b2] at hx
  obtain ⟨rfl, rfl⟩ := Prod.mk.inj hx
  have g1 : g ≤ 1099511627777 := by omega
  have g0 : 0 ≤ g := by omega
  have ht : (g != n) = false ∨ ((g != n) = true ∧ (g != n + 1) = false) := by
    by_cases q : g = n
    · exact .inl (by simp [q])
    · exact .inr ⟨by simp [q], by simp; omega⟩
  clear b2 hx
  rcases c with _ | k
  · simp only [cycN] at h2
    clear h
    rcases ht with t1 | ⟨t1, t2⟩
    all_goals
      by_cases hu : u < m
      all_goals
        go_enter Try.func16, Try.ntmps16
        go_wp2_with fail
        refine (rvalid_ok w _ _ _ H.out).mono ?_
        rintro e w' ⟨rfl, rfl⟩
        go_wp2
        go_ret
      · refine ⟨ret_int (by simp [askV, hu]), (Keeps.refl (· = b) _).setCell (p := ⟨b, 2, none⟩) (.inl rfl) _, ?_⟩
        rw [show askC m u g none = none from by simp [askC, hu]]
        exact ⟨set_block H.out.1 2 _, by simp⟩
      · refine ⟨ret_int (by simp [askV, hu]), (Keeps.refl (· = b) _).setCell (p := ⟨b, 2, none⟩) (.inl rfl) _, ?_⟩
        rw [show askC m u g none = some (g + 1) from by simp [askC]; omega]
        exact ⟨set_block H.out.1 2 _, by intro k hk; cases hk; omega⟩
  · have hk : (k == 0) = false := by have := h.2 k rfl; simp; omega
    simp only [cycN] at h2
    clear h
    rcases ht with t1 | ⟨t1, t2⟩
    all_goals
      by_cases hu : u < m
      · go_enter Try.func16, Try.ntmps16
        go_wp2_with fail
        refine (rvalid_ok w _ _ _ H.out).mono ?_
        rintro e w' ⟨rfl, rfl⟩
        go_wp2
        go_ret
        refine ⟨ret_int (by simp [askV, hu]), (Keeps.refl (· = b) _).setCell (p := ⟨b, 2, none⟩) (.inl rfl) _, ?_⟩
        rw [show askC m u g (some k) = none from by simp [askC, hu]]
        exact ⟨set_block H.out.1 2 _, by simp⟩
      · by_cases hn : n < k
        all_goals
          go_enter Try.func16, Try.ntmps16
          go_wp2_with fail
          refine (rvalid_ok w _ _ _ H.out).mono ?_
          rintro e w' ⟨rfl, rfl⟩
          go_wp2
          go_ret
          refine ⟨ret_int (by unfold askV; rw [if_neg (by omega)]; simp only []; first | rw [if_pos (by omega)] | rw [if_neg (by omega)]), Keeps.refl _ _, ?_⟩
          rw [show askC m u g (some k) = some k from by unfold askC; rw [if_neg (by omega)]]
          exact H.out

end Go.Proofs.Ytmpfhfabmcpiaaa
