/- Package quota: the closures' list. -/
import Derived.Test.YtmpfhfabmcpiaaaBase
namespace Go.Proofs.Ytmpfhfabmcpiaaa
open Go.RowKit

set_option maxHeartbeats 400000 in
theorem first_any (n blk : Nat) (fs : Nat → FuncId) (caps : Nat → Array Value) (es : Nat → Int) (I Q : Nat → World → Prop) (S : Nat → Prop) (w : World)
    (hn : n ≤ 3) (hI0 : I 0 w) (hIa : ∀ i w o, I i w → I i (w.alloc o))
    (hS : ∀ i w, I i w → ¬ S w.heap.size)
    (hf : ∀ i w, I i w → ∀ j, j < n → w.cell? ⟨blk, j * 2, none⟩ = some (.func (.func (fs j)) #[] (caps j)))
    (he : ∀ i w, I i w → ∀ j, j < n → w.cell? ⟨blk, j * 2 + 1, none⟩ = some (.int .i64 (es j)))
    (hr : ∀ i w, i < n → Sem.run Try.prog (callFunc (fs i) (caps i)) w = .ok (.enter (fs i) (caps i)) w)
    (hc : ∀ i w, i < n → I i w → Calls Try.prog (fs i) (caps i) w fun e w' => Keeps S w w' ∧ ((e = .returned (.bool true) ∧ Q i w') ∨ (e = .returned (.bool false) ∧ I (i + 1) w'))) :
    Calls Try.prog 23 #[.slice (some ⟨blk, 0, none⟩) n n] w fun e w' =>
      (∃ i, i < n ∧ e = .returned (.int .i64 (es i)) ∧ Q i w') ∨ (e = .returned (.int .i64 0) ∧ I n w') := by
  go_enter Try.func23, Try.ntmps23
  go_wp2
  go_loopw [7] (fun i wr => ∃ k : Nat, k ≤ n ∧ i = .int .i64 k ∧ I k wr) (fun i _ => n - (intOf i).toNat)
  case atStart => exact ⟨0, Nat.zero_le _, rfl, hI0⟩
  case round =>
    obtain ⟨k, hk, rfl, hI⟩ := hrel
    by_cases hlt : k < n
    · have h1 := hf k wr hI k hlt
      have h2 := he k wr hI k hlt
      have h4 := hS k wr hI
      have HC := hid hc; clear hc
      have HF := hid hf; clear hf
      have HE := hid he; clear he
      have HA := hid hIa; clear hIa
      have HS := hid hS; clear hS
      have h3 := fun w => hr k w hlt
      have HR := hid hr; clear hr
      go_wp2_with fail
      refine (HC.out k _ hlt (HA.out k _ _ hI)).mono ?_
      rintro e w' ⟨hK, ⟨rfl, hQ⟩ | ⟨rfl, hI'⟩⟩
      · have hb := (hK.block wr.heap.size (by simp) h4).trans alloc_new
        have h5 := cell_block hb 1
        clear hb hK
        go_wp2
        go_ret
        exact .inl ⟨k, hlt, rfl, hQ⟩
      · go_wp2_with fail
        exact ⟨⟨k + 1, by omega, by go_num, hI'⟩, by simp [intOf]; omega⟩
    · obtain rfl : k = n := by omega
      go_wp2
      go_ret
      exact .inr ⟨rfl, hI⟩
def first3V (r0 r1 r2 : Bool) (e0 e1 e2 : Int) : Int := bif r0 then e0 else bif r1 then e1 else bif r2 then e2 else 0

/-- three rules that change nothing -/
theorem first3 (blk : Nat) (f0 f1 f2 : FuncId) (c0 c1 c2 : Array Value) (e0 e1 e2 : Int) (r0 r1 r2 : Bool) (W : World)
    (hb : W.heap[blk]? = some (.cells #[.func (.func f0) #[] c0, .int .i64 e0, .func (.func f1) #[] c1, .int .i64 e1, .func (.func f2) #[] c2, .int .i64 e2] 56))
    (h0r : ∀ w, Sem.run Try.prog (callFunc f0 c0) w = .ok (.enter f0 c0) w)
    (h1r : ∀ w, Sem.run Try.prog (callFunc f1 c1) w = .ok (.enter f1 c1) w)
    (h2r : ∀ w, Sem.run Try.prog (callFunc f2 c2) w = .ok (.enter f2 c2) w)
    (h0 : ∀ w, Keeps (fun _ => False) W w → Calls Try.prog f0 c0 w fun e w' => e = .returned (.bool r0) ∧ ∃ n, w' = w.drewN n)
    (h1 : ∀ w, Keeps (fun _ => False) W w → r0 = false → Calls Try.prog f1 c1 w fun e w' => e = .returned (.bool r1) ∧ ∃ n, w' = w.drewN n)
    (h2 : ∀ w, Keeps (fun _ => False) W w → r0 = false → r1 = false → Calls Try.prog f2 c2 w fun e w' => e = .returned (.bool r2) ∧ ∃ n, w' = w.drewN n) :
    Calls Try.prog 23 #[.slice (some ⟨blk, 0, none⟩) 3 3] W fun e w' => e = .returned (.int .i64 (first3V r0 r1 r2 e0 e1 e2)) ∧ Keeps (fun _ => False) W w' := by
  refine (first_any 3 blk (fun i => match i with | 0 => f0 | 1 => f1 | _ => f2) (fun i => match i with | 0 => c0 | 1 => c1 | _ => c2) (fun i => match i with | 0 => e0 | 1 => e1 | _ => e2)
    (fun i w => Keeps (fun _ => False) W w ∧ (1 ≤ i → r0 = false) ∧ (2 ≤ i → r1 = false) ∧ (3 ≤ i → r2 = false))
    (fun i w => Keeps (fun _ => False) W w ∧ (1 ≤ i → r0 = false) ∧ (2 ≤ i → r1 = false) ∧ (match i with | 0 => r0 | 1 => r1 | _ => r2) = true)
    (fun _ => False) W (by omega) ⟨Keeps.refl _ _, by omega, by omega, by omega⟩ (fun i w o h => ⟨h.1.alloc o, h.2⟩) (fun _ _ _ h => h) ?_ ?_ ?_ ?_).mono ?_
  · intro i w hI j hj
    have hb' := (hI.1.block blk (lt_block hb) (fun x => x)).trans hb
    have := cell_block hb' (j * 2)
    rw [this]
    match j, hj with
    | 0, _ => rfl
    | 1, _ => rfl
    | 2, _ => rfl
  · intro i w hI j hj
    have hb' := (hI.1.block blk (lt_block hb) (fun x => x)).trans hb
    have := cell_block hb' (j * 2 + 1)
    rw [this]
    match j, hj with
    | 0, _ => rfl
    | 1, _ => rfl
    | 2, _ => rfl
  · intro i w hi
    match i, hi with
    | 0, _ => exact h0r w
    | 1, _ => exact h1r w
    | 2, _ => exact h2r w
  · intro i w hi hI
    match i, hi with
    | 0, _ =>
      refine (h0 w hI.1).mono ?_
      rintro e w' ⟨rfl, n, rfl⟩
      refine ⟨(Keeps.refl _ _).drewN n, ?_⟩
      cases r0
      · exact .inr ⟨rfl, hI.1.drewN n, fun _ => rfl, by omega, by omega⟩
      · exact .inl ⟨rfl, hI.1.drewN n, by omega, by omega, rfl⟩
    | 1, _ =>
      have a0 := hI.2.1 (by omega)
      refine (h1 w hI.1 a0).mono ?_
      rintro e w' ⟨rfl, n, rfl⟩
      refine ⟨(Keeps.refl _ _).drewN n, ?_⟩
      cases r1
      · exact .inr ⟨rfl, hI.1.drewN n, fun _ => a0, fun _ => rfl, by omega⟩
      · exact .inl ⟨rfl, hI.1.drewN n, fun _ => a0, by omega, rfl⟩
    | 2, _ =>
      have a0 := hI.2.1 (by omega)
      have a1 := hI.2.2.1 (by omega)
      refine (h2 w hI.1 a0 a1).mono ?_
      rintro e w' ⟨rfl, n, rfl⟩
      refine ⟨(Keeps.refl _ _).drewN n, ?_⟩
      cases r2
      · exact .inr ⟨rfl, hI.1.drewN n, fun _ => a0, fun _ => a1, fun _ => rfl⟩
      · exact .inl ⟨rfl, hI.1.drewN n, fun _ => a0, fun _ => a1, rfl⟩
  · rintro e w' (⟨i, hi, rfl, hk, a0, a1, a2⟩ | ⟨rfl, hk, a0, a1, a2⟩)
    · refine ⟨?_, hk⟩
      match i, hi with
      | 0, _ => simp at a2; simp [first3V, a2]
      | 1, _ => simp at a2; simp [first3V, a2, a0]
      | 2, _ => simp at a2; simp [first3V, a2, a0, a1]
    · refine ⟨?_, hk⟩
      simp [first3V, a0, a1, a2]

/-- three rules, the second of which holds and changes block b -/
theorem first3b (blk b : Nat) (f0 f1 f2 : FuncId) (c0 c1 c2 : Array Value) (e0 e1 e2 : Int) (R : World → Prop) (W : World) (hbl : b < W.heap.size)
    (hb : W.heap[blk]? = some (.cells #[.func (.func f0) #[] c0, .int .i64 e0, .func (.func f1) #[] c1, .int .i64 e1, .func (.func f2) #[] c2, .int .i64 e2] 56))
    (h0r : ∀ w, Sem.run Try.prog (callFunc f0 c0) w = .ok (.enter f0 c0) w)
    (h1r : ∀ w, Sem.run Try.prog (callFunc f1 c1) w = .ok (.enter f1 c1) w)
    (h2r : ∀ w, Sem.run Try.prog (callFunc f2 c2) w = .ok (.enter f2 c2) w)
    (h0 : ∀ w, Keeps (fun _ => False) W w → Calls Try.prog f0 c0 w fun e w' => e = .returned (.bool false) ∧ ∃ n, w' = w.drewN n)
    (h1 : ∀ w, Keeps (fun _ => False) W w → Calls Try.prog f1 c1 w fun e w' => e = .returned (.bool true) ∧ Keeps (· = b) w w' ∧ R w') :
    Calls Try.prog 23 #[.slice (some ⟨blk, 0, none⟩) 3 3] W fun e w' => e = .returned (.int .i64 e1) ∧ Keeps (· = b) W w' ∧ R w' := by
  refine (first_any 3 blk (fun i => match i with | 0 => f0 | 1 => f1 | _ => f2) (fun i => match i with | 0 => c0 | 1 => c1 | _ => c2) (fun i => match i with | 0 => e0 | 1 => e1 | _ => e2)
    (fun i w => Keeps (fun _ => False) W w ∧ i < 2)
    (fun i w => Keeps (· = b) W w ∧ i = 1 ∧ R w)
    (· = b) W (by omega) ⟨Keeps.refl _ _, by omega⟩ (fun i w o h => ⟨h.1.alloc o, h.2⟩) (fun i w h e => by have := h.1.size; omega) ?_ ?_ ?_ ?_).mono ?_
  · intro i w hI j hj
    have hb' := (hI.1.block blk (lt_block hb) (fun x => x)).trans hb
    have := cell_block hb' (j * 2)
    rw [this]
    match j, hj with
    | 0, _ => rfl
    | 1, _ => rfl
    | 2, _ => rfl
  · intro i w hI j hj
    have hb' := (hI.1.block blk (lt_block hb) (fun x => x)).trans hb
    have := cell_block hb' (j * 2 + 1)
    rw [this]
    match j, hj with
    | 0, _ => rfl
    | 1, _ => rfl
    | 2, _ => rfl
  · intro i w hi
    match i, hi with
    | 0, _ => exact h0r w
    | 1, _ => exact h1r w
    | 2, _ => exact h2r w
  · intro i w hi hI
    match i, hi with
    | 0, _ =>
      refine (h0 w hI.1).mono ?_
      rintro e w' ⟨rfl, n, rfl⟩
      exact ⟨(Keeps.refl _ _).drewN n, .inr ⟨rfl, hI.1.drewN n, by omega⟩⟩
    | 1, _ =>
      refine (h1 w hI.1).mono ?_
      rintro e w' ⟨rfl, hk, hR⟩
      exact ⟨hk, .inl ⟨rfl, hI.1.trans' hk (fun _ _ h => h.elim) (fun _ _ h => h), rfl, hR⟩⟩
    | 2, _ => exact absurd hI.2 (by omega)
  · rintro e w' (⟨i, hi, rfl, hk, rfl, hR⟩ | ⟨rfl, hk, h⟩)
    · exact ⟨rfl, hk, hR⟩
    · omega

end Go.Proofs.Ytmpfhfabmcpiaaa
