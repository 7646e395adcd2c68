/- A reading of closed calls that the kernel can run: known calls of values without blocks. -/
import Derived.Test.YthlphddehdjfjaaGreatDoorEwFr
namespace Go.Proofs.YthlphddehdjfjaaGreatDoor
open Go.RowKit
set_option linter.unusedVariables false
set_option linter.unusedSimpArgs false

theorem R.free {ρ ρ' : Rn} {a : AV} {v : VL} (h : R ρ a v) : a.bd 0 = true → R ρ' a v := by
  have hlt : ∀ n : Nat, Nat.blt n 0 = true → False := fun n h => by rw [Nat.blt_eq] at h; omega
  have hand : ∀ x y : Bool, (Bool.rec (motive := fun _ => Bool) false y x) = true → x = true ∧ y = true := fun x y h => by cases x <;> first | exact ⟨rfl, h⟩ | cases h
  induction h with
  | any h => exact fun _ => .any h
  | b x => exact fun _ => .b x
  | i k n => exact fun _ => .i k n
  | s x => exact fun _ => .s x
  | p h => exact fun e => (hlt _ e).elim
  | np => exact fun _ => .np
  | sl h hc => exact fun e => (hlt _ e).elim
  | gs h hc => exact fun e => (hlt _ e).elim
  | ns => exact fun _ => .ns
  | m h => exact fun e => (hlt _ e).elim
  | nm => exact fun _ => .nm
  | f _ ih => exact fun e => .f (ih e)
  | fy h => exact fun e => (hlt _ e).elim
  | nf => exact fun _ => .nf
  | x _ ih => exact fun e => .x (ih e)
  | nx => exact fun _ => .nx
  | a _ ih => exact fun e => .a (ih e)
  | t _ ih => exact fun e => .t (ih e)
  | nil => exact fun _ => .nil
  | cons _ _ h1 h2 => exact fun e => let q := hand _ _ e; .cons (h1 q.1) (h2 q.2)
  | md h => exact fun _ => .md h
  | fb _ _ h1 h2 => exact fun e => let q := hand _ _ e; .fb (h1 q.1) (h2 q.2)
/-- a call of values without blocks, that gives such a one, is known wherever it is made -/
noncomputable def knP (f0 : FuncId) (a0 r : AV) : Kn := fun f args h nx => Bool.rec (motive := fun _ => Option (AV × Tr AO × Nat)) none (iff' (decide (a0 = args)) (some (r, h, nx))) (Nat.beq f0 f)
theorem knP_ok {P : Program} {f0 : FuncId} {a0 r0 : AV} {h1 : Tr AO} {n1 : Nat} (ha : a0.bd 0 = true) (hr0 : r0.bd 0 = true) (c : CalE P 1 f0 a0 .e 1 r0 h1 n1) : KnOk P 1 (knP f0 a0 r0) := fun f args h nx r h' nx' e => by
  unfold knP at e
  cases hb : Nat.beq f0 f with
  | false => rw [hb] at e; cases e
  | true =>
    rw [hb] at e
    obtain ⟨k1, e⟩ := iff_eq e
    cases e
    have := Nat.eq_of_beq_eq_true hb
    have := of_decide_eq_true k1
    subst f0 a0
    intro ρ vs w hr l
    obtain ⟨c1, c2⟩ := c ρ1 vs w (hr.free ha) (lay1 w)
    refine ⟨fun w' _ => c1 w' (lay1 w'), c2.mono ?_⟩
    rintro e w' ⟨v, ρ', rfl, fin⟩
    have hk : Keeps (fun _ => False) w w' := fin.n.kp.mono fun x _ hx => by obtain ⟨i, o, C, h, _⟩ := hx; cases h
    exact ⟨v, ρ, rfl, fin.r.free hr0, l.same hk, .same hk⟩
/-- A CALL THAT IS READ AS TRUE RETURNS TRUE. -/
theorem args_true {P : Program} {kp : Tr Nat} {mc : FuncId} {kn : Kn} {n : Nat} {f : FuncId} {args : AV} {vs : List Value} (hm : P.follows .mixedOrders = true) (hkn : KnOk P 1 kn) (hcl : CloneOk P mc) (hf : Nat.beq f mc = false)
    (he : isT (evF P 1 kp mc kn n f args .e 1) = true) (hr : R ρ1 args (.l vs)) (w : World) : CallsIn Wd 0 P f ⟨vs⟩ w fun e w' => e = .returned (.bool true) ∧ Keeps (fun _ => False) w w' := by
  unfold isT at he
  split at he
  · rename_i h' nx' hx
    refine (evF_ok (drawn_ok hm) hkn hcl hf hx ρ1 vs w hr (lay1 w)).2.mono ?_
    rintro e w' ⟨v, ρ', rfl, fin⟩
    have := fin.r
    cases this
    exact ⟨rfl, fin.n.kp.mono fun x _ hx => by obtain ⟨i, o, C, h, _⟩ := hx; cases h⟩
  · cases he
#print axioms args_true
end Go.Proofs.YthlphddehdjfjaaGreatDoor
