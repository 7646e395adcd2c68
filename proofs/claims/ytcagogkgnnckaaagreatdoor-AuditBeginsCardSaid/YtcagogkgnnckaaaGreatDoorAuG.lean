/- Package backoff: find, Wait. -/
import Derived.Test.YtcagogkgnnckaaaGreatDoorAuB
namespace Go.Proofs.YtcagogkgnnckaaaGreatDoor
open Go.RowKit
attribute [local go_sem] Oper.semAt_some
set_option linter.unusedVariables false
set_option linter.unusedSimpArgs false

theorem not_two {w : World} {y : Nat} (h : y < w.heap.size) : ¬ Two w y := fun h' => by rcases h' with h' | h' <;> omega
theorem waits_call (base cap : Int) (w : World) : Calls Tryz.prog 71 #[.int .i64 base, .int .i64 cap] w fun e w' => e = .returned (.func (.func 110) #[] #[.pointer (some ⟨w.heap.size, 0, none⟩), .pointer (some ⟨w.heap.size + 1, 0, none⟩)]) ∧ Keeps (fun _ => False) w w' ∧
    w'.heap[w.heap.size]? = some (.cells #[.int .i64 base] 2) ∧ w'.heap[w.heap.size + 1]? = some (.cells #[.int .i64 cap] 2) := by
  go_enter Tryz.func71, Tryz.ntmps71
  go_wp2_with fail
  go_ret
  exact ⟨rfl, Keeps.r, alloc_old alloc_new, alloc_new' (by simp)⟩
theorem wait1 (k n x : Int) (b : Nat) (w : World) (h : w.heap[b]? = some (.cells #[.int .i64 n] 3)) : Calls Tryz.prog 37 #[.int .i64 k, .int .i64 x, .pointer (some ⟨b, 0, none⟩)] w fun e w' => e = .returned (.bool (k == n)) ∧ w' = w := by
  have c0 := cell_at (i := 0) h rfl
  clear h
  go_enter Tryz.func37, Tryz.ntmps37
  go_wp2_with fail
  go_ret
  exact ⟨rfl, rfl⟩
theorem waits_at {base cap : Int} {pre suf : List (Nat × Int)} {x : Nat × Int} (h : waitsL base cap 64 = pre ++ x :: suf) : x = (pre.length, waitN base cap pre.length) ∧ pre.length < 64 := by
  have h1 : (waitsL base cap 64)[pre.length]? = some x := by rw [h]; simp
  unfold waitsL at h1
  rw [List.getElem?_map] at h1
  by_cases hl : pre.length < 64
  · rw [List.getElem?_range hl] at h1
    exact ⟨(Option.some.inj h1).symm, hl⟩
  · rw [List.getElem?_eq_none (by simpa using hl)] at h1
    cases h1
set_option maxRecDepth 100000 in
set_option maxHeartbeats 1000000 in
theorem bfind (n base cap : Int) (b : Nat) (w : World) (hb : w.heap[b]? = some (.cells #[.int .i64 n] 3)) (n1 : 1 ≤ n) (n2 : n ≤ 64) (h1 : 1 ≤ base) (h2 : base ≤ cap) (h3 : cap ≤ 1048576) :
    Calls Tryz.prog 36 #[.int .i64 base, .int .i64 cap, .func (.func 37) #[] #[.pointer (some ⟨b, 0, none⟩)]] w fun e w' => e = .returned (.tuple #[.int .i64 n, .int .i64 (waitN base cap (n - 1).toNat)]) ∧ Keeps (fun _ => False) w w' := by
  have HB := hid hb
  clear hb
  refine (callsIn_wide (n := 0)).1 ?_
  refine callsIn_of_wp_marks Tryz.func36 rfl trivial ?_ rfl
  simp only [Tryz.ntmps36, List.size_toArray, List.length_cons, List.length_nil, Nat.reduceAdd, Nat.reduceSub, Array.replicate_succ, Array.replicate_zero, List.push_toArray, List.append_toArray, List.nil_append, List.cons_append]
  gi_wp2_with fail
  refine ⟨trivial, rfl, callsIn_wide.2 ((waits_call base cap _).mono ?_)⟩
  rintro e w1 ⟨rfl, k1, g1, g2⟩
  simp only [World.size_alloc] at g1 g2 ⊢
  have hb0 := lt_block HB.out
  have a0 := block_keep (alloc_old (alloc_old (alloc_new (w := w) (o := .cells #[.func (.func 37) #[] #[.pointer (some ⟨b, 0, none⟩)]] 94)) (o := .cells #[.int .i64 0] 3)) (o := .cells #[.int .i64 0] 2)) k1 (fun h => h)
  have a1 := block_keep (alloc_old (alloc_new' (w := w.alloc (.cells #[.func (.func 37) #[] #[.pointer (some ⟨b, 0, none⟩)]] 94)) (o := .cells #[.int .i64 0] 3) (n := w.heap.size + 1) (by simp)) (o := .cells #[.int .i64 0] 2)) k1 (fun h => h)
  have a2 := block_keep (alloc_new' (w := (w.alloc (.cells #[.func (.func 37) #[] #[.pointer (some ⟨b, 0, none⟩)]] 94)).alloc (.cells #[.int .i64 0] 3)) (o := .cells #[.int .i64 0] 2) (n := w.heap.size + 2) (by simp)) k1 (fun h => h)
  have kk : Keeps (fun _ => False) w w1 := (Keeps.r (a := w)).trans k1
  have a3 := block_keep HB.out kk (fun h => h)
  have HK := hid kk
  have HA := hid (And.intro a0 (And.intro a1 (And.intro a2 (And.intro a3 (And.intro g1 g2)))))
  have l4 := lt_block g2
  clear k1 kk a0 a1 a2 a3 g1 g2
  gi_wp2_with fail
  refine wp_over (gf := 110) (lb := #[.pointer (some ⟨w.heap.size + 3, 0, none⟩), .pointer (some ⟨w.heap.size + 4, 0, none⟩)]) rfl (enters_of Tryz.func110 (by kernel_rfl) rfl) (waits_gives _ _ base cap h1 h2 h3) (fun _ => rfl)
    (fun pre W => (pre.length : Int) < n ∧ W.heap[w.heap.size]? = some (.cells #[.func (.func 37) #[] #[.pointer (some ⟨b, 0, none⟩)]] 94) ∧ W.heap[w.heap.size + 1]? = some (.cells #[.int .i64 0] 3) ∧ W.heap[w.heap.size + 2]? = some (.cells #[.int .i64 0] 2) ∧ W.heap[b]? = some (.cells #[.int .i64 n] 3) ∧ W.heap[w.heap.size + 3]? = some (.cells #[.int .i64 base] 2) ∧ W.heap[w.heap.size + 4]? = some (.cells #[.int .i64 cap] 2) ∧ Keeps (Two w1) w1 W)
    (fun c W => c = .ret ∧ W.heap[w.heap.size + 1]? = some (.cells #[.int .i64 n] 3) ∧ W.heap[w.heap.size + 2]? = some (.cells #[.int .i64 (waitN base cap (n - 1).toNat)] 2) ∧ Keeps (fun y => Two w1 y ∨ y = w.heap.size + 1 ∨ y = w.heap.size + 2) w1 W)
    ?hI ?hIx ?hRd (fun _ _ h => h) ⟨by simp; omega, HA.out.1, HA.out.2.1, HA.out.2.2.1, HA.out.2.2.2.1, HA.out.2.2.2.2.1, HA.out.2.2.2.2.2, Keeps.refl _ _⟩ ?body ?done ?stop
  case hI =>
    rintro pre W W' ⟨p0, p1, p2, p3, p4, p5, p6, p7⟩ hk
    have hk' : Keeps (Two w1) W W' := hk.mono (fun _ _ h => h.elim (fun h => h.elim) (fun h => h))
    exact ⟨p0, block_keep p1 hk' (not_two (by omega)), block_keep p2 hk' (not_two (by omega)), block_keep p3 hk' (not_two (by omega)), block_keep p4 hk' (not_two (by omega)), block_keep p5 hk' (not_two (by omega)), block_keep p6 hk' (not_two (by omega)), p7.trans hk'⟩
  case hIx =>
    rintro c W W' ⟨p0, p1, p2, p3⟩ hk
    have hk' : Keeps (Two w1) W W' := hk.mono (fun _ _ h => h.elim (fun h => h.elim) (fun h => h))
    exact ⟨p0, block_keep p1 hk' (not_two (by omega)), block_keep p2 hk' (not_two (by omega)), p3.trans (hk'.mono (fun _ _ h => .inl h))⟩
  case hRd => rintro pre W ⟨p0, p1, p2, p3, p4, p5, p6, p7⟩; exact ⟨p5, p6⟩
  case body =>
    rintro l pre x suf W hx ⟨p0, p1, p2, p3, p4, p5, p6, p7⟩ hsW
    obtain ⟨rfl, hl⟩ := waits_at hx
    have HX := hid hx
    clear hx
    simp only [encW, List.zip_toArray, List.zip_cons_cons, List.zip_nil_left]
    gi_wp2_with fail
    refine ⟨Keeps.refl _ _, fun W2 hk2 => ?_⟩
    have q1 := block_keep p1 hk2 (not_two (by omega))
    have q2 := block_keep p2 hk2 (not_two (by omega))
    have q3 := block_keep p3 hk2 (not_two (by omega))
    have q4 := block_keep p4 hk2 (not_two (by omega))
    have q5 := block_keep p5 hk2 (not_two (by omega))
    have q6 := block_keep p6 hk2 (not_two (by omega))
    have q7 := p7.trans hk2
    have HW1 := hid (wait1 ((pre.length : Int) + 1) n (waitN base cap pre.length) b W2 q4)
    have HQ := hid (And.intro q1 (And.intro q2 (And.intro q3 (And.intro q4 (And.intro q5 (And.intro q6 q7))))))
    have c0 := cell_at (i := 0) q1 rfl
    have c1 := cell_at (i := 0) q2 rfl
    have c2 := cell_at (i := 0) q3 rfl
    have f1 := frozen_block q2 0
    have f2 := frozen_block q3 0
    have l2 := lt_block q2
    have l3 := lt_block q3
    clear p1 p2 p3 p4 p5 p6 p7 hk2 q1 q2 q3 q4 q5 q6 q7
    by_cases hn : (pre.length : Int) + 1 = n
    · rw [show ((pre.length : Int) + 1 == n) = true by simp [hn]] at HW1
      have HN := hid (show (n - 1).toNat = pre.length by omega)
      have HNN := hid hn
      clear hn
      gi_wp2_with fail
      refine ⟨trivial, rfl, CallsIn.inRound l (callsIn_wide.2 (HW1.out.mono ?_))⟩
      rintro e W3 ⟨rfl, rfl⟩
      gi_wp2_with fail
      rw [HN.out, ← HNN.out]
      exact ⟨((Keeps.refl (fun k => ¬ Two w1 k) _).setCell (p := ⟨w.heap.size + 1, 0, none⟩) (.inl (not_two (y := w.heap.size + 1) (by omega))) _).setCell (p := ⟨w.heap.size + 2, 0, none⟩) (.inl (not_two (y := w.heap.size + 2) (by omega))) _, rfl,
        set_oth (set_block HQ.out.2.1 0 _) (by simp), set_block (set_oth HQ.out.2.2.1 (by simp)) 0 _,
        ((HQ.out.2.2.2.2.2.2.mono (fun _ _ h => .inl h)).setCell (p := ⟨w.heap.size + 1, 0, none⟩) (.inl (.inr (.inl rfl))) _).setCell (p := ⟨w.heap.size + 2, 0, none⟩) (.inl (.inr (.inr rfl))) _⟩
    · rw [show ((pre.length : Int) + 1 == n) = false by simp [hn]] at HW1
      gi_wp2_with fail
      refine ⟨trivial, rfl, CallsIn.inRound l (callsIn_wide.2 (HW1.out.mono ?_))⟩
      rintro e W3 ⟨rfl, rfl⟩
      gi_wp2_with fail
      exact ⟨Keeps.refl _ _, by simp; omega, HQ.out⟩
  case done =>
    rintro W ⟨p0, _⟩ _
    exfalso
    have : (waitsL base cap 64).length = 64 := by unfold waitsL; simp
    omega
  case stop =>
    rintro c W ⟨rfl, p1, p2, p3⟩ hD
    have c1 := cell_at (i := 0) p1 rfl
    have c2 := cell_at (i := 0) p2 rfl
    have P1 := hid p1; have P2 := hid p2; have P3 := hid p3; have HD := hid hD
    clear p1 p2 p3 hD c1 c2
    gi_wp2_with fail
    refine leave_mark HD.out fun W' hk' => ⟨.tuple #[.int .i64 n, .int .i64 (waitN base cap (n - 1).toNat)], ?_, rfl, ?_⟩
    · have c1 := cell_at (i := 0) (block_keep P1.out hk' (by omega)) rfl
      have c2 := cell_at (i := 0) (block_keep P2.out hk' (by omega)) rfl
      simp [results, Tryz.results36, go_sem, c1, c2]
    · have hsz := HK.out.size
      exact (HK.out.trans' P3.out (U := fun y => w.heap.size ≤ y) (fun _ _ h => h.elim) (fun y _ h => by rcases h with (h | h) | h | h <;> omega)).trans' hk' (U := fun _ => False) (fun y hy h => by omega) (fun y hy h => by omega)
theorem bwait (n base cap : Int) (w : World) : Calls Tryz.prog 22 #[.int .i64 n, .int .i64 base, .int .i64 cap] w fun e w' => e = .returned (match waitV base cap n with | some x => .tuple #[.int .i64 x, .int .i64 0] | none => .tuple #[.int .i64 0, .int .i64 2]) ∧ Keeps (fun _ => False) w w' := by
  have HC := hid (fun W => bcheck n base cap W)
  by_cases h : 1 ≤ n ∧ n ≤ 64 ∧ 1 ≤ base ∧ base ≤ cap ∧ cap ≤ 1048576
  · rw [show waitV base cap n = some (waitN base cap (n - 1).toNat) by unfold waitV; rw [if_pos h]]
    rw [if_pos h] at HC
    have HF := hid (fun W b hb => bfind n base cap b W hb h.1 h.2.1 h.2.2.1 h.2.2.2.1 h.2.2.2.2)
    clear h
    obtain ⟨x, hx⟩ : ∃ x, waitN base cap (n - 1).toNat = x := ⟨_, rfl⟩
    rw [hx] at HF ⊢
    clear hx
    go_enter Tryz.func22, Tryz.ntmps22
    go_wp2_with fail
    refine (HC.out _).mono ?_
    rintro e w1 ⟨rfl, rfl⟩
    go_wp2_with fail
    refine (HF.out _ _ alloc_new).mono ?_
    rintro e w2 ⟨rfl, k2⟩
    have K2 := hid k2
    clear k2
    go_wp2_with fail
    go_ret2
    exact ⟨rfl, (Keeps.r (a := w)).trans K2.out⟩
  · rw [show waitV base cap n = none by unfold waitV; rw [if_neg h]]
    rw [if_neg h] at HC
    clear h
    go_enter Tryz.func22, Tryz.ntmps22
    go_wp2_with fail
    refine (HC.out _).mono ?_
    rintro e w1 ⟨rfl, rfl⟩
    go_wp2_with fail
    go_ret2
    exact ⟨rfl, Keeps.r⟩
end Go.Proofs.YtcagogkgnnckaaaGreatDoor
