/- Package backoff: Wait. -/
import Derived.Test.YtcagogkgnnckaaaGreatDoorAuS
import Derived.TacticsInMore
import Derived.LoopNIn
import Derived.LoopIn
import Derived.OwnWalkIn
namespace Go.Proofs.YtcagogkgnnckaaaGreatDoor
open Go.RowKit
attribute [local go_sem] Oper.semAt_some
set_option linter.unusedVariables false
set_option linter.unusedSimpArgs false

def encW (x : Nat × Int) : Array Value := #[.int .i64 ((x.1 : Int) + 1), .int .i64 x.2]
def waitsL (base cap : Int) (n : Nat) : List (Nat × Int) := (List.range n).map fun k => (k, waitN base cap k)
theorem waitsL_succ (base cap : Int) (n : Nat) : waitsL base cap (n + 1) = waitsL base cap n ++ [(n, waitN base cap n)] := by unfold waitsL; rw [List.range_succ, List.map_append]; rfl
theorem waitN_in {base cap : Int} (h1 : 1 ≤ base) (h2 : base ≤ cap) : ∀ n, 1 ≤ waitN base cap n ∧ waitN base cap n ≤ cap
  | 0 => ⟨h1, h2⟩
  | n + 1 => by
    have := waitN_in h1 h2 n
    simp only [waitN]
    omega
theorem waitsL_split (base cap : Int) {j : Nat} (hj : j < 64) : ∃ suf, waitsL base cap 64 = waitsL base cap j ++ (j, waitN base cap j) :: suf := by
  refine ⟨(waitsL base cap 64).drop (j + 1), ?_⟩
  have e1 : waitsL base cap j = (waitsL base cap 64).take j := by
    unfold waitsL; rw [← List.map_take, List.take_range, Nat.min_eq_left (by omega)]
  have e2 : (waitsL base cap 64)[j]? = some (j, waitN base cap j) := by unfold waitsL; rw [List.getElem?_map, List.getElem?_range hj]; rfl
  obtain ⟨h1, h2⟩ := List.getElem?_eq_some_iff.1 e2
  rw [e1, ← h2, ← List.drop_eq_getElem_cons h1, List.take_append_drop]
set_option maxRecDepth 100000 in
set_option maxHeartbeats 1000000 in
theorem waits_gives (b1 b2 : Nat) (base cap : Int) (h1 : 1 ≤ base) (h2 : base ≤ cap) (h3 : cap ≤ 1048576) :
    Gives Tryz.prog 110 #[.pointer (some ⟨b1, 0, none⟩), .pointer (some ⟨b2, 0, none⟩)] encW (waitsL base cap 64) (fun W => W.heap[b1]? = some (.cells #[.int .i64 base] 2) ∧ W.heap[b2]? = some (.cells #[.int .i64 cap] 2)) (fun _ => False) := by
  intro l J Jx W hJ hJx hRd hY h0
  have c1 := cell_at (i := 0) (hRd _ _ h0).1 rfl
  have HJ := hid hJ; have HR := hid hRd; have HY := hid hY; have H0 := hid h0
  clear hJ hRd hY h0
  refine (callsIn_wide (n := 0)).1 ?_
  refine callsIn_of_wp Tryz.func110 rfl trivial ?_ rfl
  simp only [Tryz.ntmps110, List.size_toArray, List.length_cons, List.length_nil, Nat.reduceAdd, Nat.reduceSub, Array.replicate_succ, Array.replicate_zero, List.push_toArray, List.append_toArray, List.nil_append, List.cons_append]
  gi_wp2_with fail
  clear c1
  gi_loopw [5, 4] (fun k v wr => ∃ j : Nat, j ≤ 64 ∧ k = .int .i64 ((j : Int) + 1) ∧ v = .int .i64 (waitN base cap j) ∧ J (waitsL base cap j) wr) (fun k _ _ => 66 - (intOf k).toNat)
  case atStart => exact ⟨0, Nat.zero_le _, rfl, rfl, H0.out⟩
  case round =>
    obtain ⟨j, hj, rfl, rfl, hJj⟩ := hrel
    clear H0
    have hw := waitN_in h1 h2 j
    have HW := hid (waitN_in h1 h2 (j + 1))
    have HN := hid (show waitN base cap (j + 1) = min (2 * waitN base cap j) cap from rfl)
    obtain ⟨x, hx⟩ : ∃ x, waitN base cap j = x := ⟨_, rfl⟩
    by_cases hlt : j < 64
    · obtain ⟨suf, hsuf⟩ := waitsL_split base cap hlt
      obtain ⟨fn, tmps, assign, body, hy, hR⟩ := HY.out _ _ suf _ hsuf hJj
      dsimp only [encW] at hy
      have HS := hid (waitsL_succ base cap j)
      rw [hx] at hy hR hw HN HS ⊢
      have hlt' : (j : Int) + 1 ≤ 64 := by omega
      clear hsuf suf hx hJj
      gi_wp2_with fail
      refine ⟨rfl, hR.mono ?_⟩
      rintro e W' (⟨rfl, hJ'⟩ | ⟨rfl, hJx'⟩)
      · have c2 := cell_at (i := 0) (HR.out _ _ hJ').2 rfl
        have hm : IntKind.i64.wrap (2 * x) = 2 * x := IntWalk.i64_in _ (by omega)
        gi_wp2_with fail
        refine ⟨⟨j + 1, by omega, rfl, ?_, by rw [HS.out]; exact hJ'⟩, by simp [intOf]; omega⟩
        rw [HN.out]
        congr 1
        split <;> omega
      · gi_wp2_with fail
        go_end0
        exact ⟨⟨_, rfl⟩, .inr hJx'⟩
    · obtain rfl : j = 64 := by omega
      gi_wp2_with fail
      refine ⟨fun _ h => (by cases h), ?_⟩
      gi_wp2_with fail
      go_end0
      exact ⟨⟨_, rfl⟩, .inl hJj⟩
theorem bcheck (n base cap : Int) (w : World) : Calls Tryz.prog 35 #[.int .i64 n, .int .i64 base, .int .i64 cap] w fun e w' => e = .returned (.int .i64 (if 1 ≤ n ∧ n ≤ 64 ∧ 1 ≤ base ∧ base ≤ cap ∧ cap ≤ 1048576 then 0 else 2)) ∧ w' = w := by
  by_cases h1 : n < 1
  · rw [if_neg (by omega)]
    go_enter Tryz.func35, Tryz.ntmps35
    go_wp2_with fail
    go_ret
    exact ⟨rfl, rfl⟩
  by_cases h2 : 64 < n
  · rw [if_neg (by omega)]
    go_enter Tryz.func35, Tryz.ntmps35
    go_wp2_with fail
    go_ret
    exact ⟨rfl, rfl⟩
  have HC : Hid (∀ w, Calls Tryz.prog 70 #[.int .i64 base, .int .i64 cap] w fun e w' => e = .returned (.int .i64 (if 1 ≤ base ∧ base ≤ cap ∧ cap ≤ 1048576 then 0 else 2)) ∧ w' = w) := hid (by
    intro w
    clear h1 h2
    by_cases h1 : base < 1
    · rw [if_neg (by omega)]
      go_enter Tryz.func70, Tryz.ntmps70
      go_wp2_with fail
      go_ret
      exact ⟨rfl, rfl⟩
    by_cases h2 : cap < base
    · rw [if_neg (by omega)]
      go_enter Tryz.func70, Tryz.ntmps70
      go_wp2_with fail
      go_ret
      exact ⟨rfl, rfl⟩
    by_cases h3 : 1048576 < cap
    · rw [if_neg (by omega)]
      go_enter Tryz.func70, Tryz.ntmps70
      go_wp2_with fail
      go_ret
      exact ⟨rfl, rfl⟩
    rw [if_pos (by omega)]
    go_enter Tryz.func70, Tryz.ntmps70
    go_wp2_with fail
    go_ret
    exact ⟨rfl, rfl⟩)
  have HE := hid (show (if 1 ≤ n ∧ n ≤ 64 ∧ 1 ≤ base ∧ base ≤ cap ∧ cap ≤ 1048576 then (0 : Int) else 2) = (if 1 ≤ base ∧ base ≤ cap ∧ cap ≤ 1048576 then 0 else 2) by
    by_cases h : 1 ≤ base ∧ base ≤ cap ∧ cap ≤ 1048576
    · rw [if_pos h, if_pos (by omega)]
    · rw [if_neg h, if_neg (by omega)])
  rw [HE.out]
  obtain ⟨x, hx⟩ : ∃ x : Int, (if 1 ≤ base ∧ base ≤ cap ∧ cap ≤ 1048576 then (0 : Int) else 2) = x := ⟨_, rfl⟩
  rw [hx] at HC ⊢
  clear HE hx
  go_enter Tryz.func35, Tryz.ntmps35
  go_wp2_with fail
  refine (HC.out _).mono ?_
  rintro e w1 ⟨rfl, rfl⟩
  go_wp2_with fail
  go_ret
  exact ⟨rfl, rfl⟩
end Go.Proofs.YtcagogkgnnckaaaGreatDoor
