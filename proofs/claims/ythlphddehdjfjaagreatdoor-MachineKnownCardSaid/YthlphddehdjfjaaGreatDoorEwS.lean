/- A reading of closed calls that the kernel can run: it is right, where regions that draw are. -/
import Derived.Test.YthlphddehdjfjaaGreatDoorEwQ
namespace Go.Proofs.YthlphddehdjfjaaGreatDoor
open Go.RowKit
set_option linter.unusedVariables false
set_option linter.unusedSimpArgs false
set_option linter.unusedSectionVars false

/-- regions that draw their order are read rightly -/
def Drawn (P : Program) (G : Nat) : Prop :=
  ∀ (cal : Cal) (yld : Yld) (nt km : Nat) (ops : Array Oper) (st st' : St), SCal P G cal → SYld P G yld → evD P G cal yld nt ops st = some st' → ∀ ρ a w, SR G nt km ρ st a w → ∀ (rd : Option Nat) (id : Nat) (Q : Exit → Act → World → Prop),
    (∀ ρ' a' w', SR G nt km ρ' st' a' w' → Nx ρ st.h.get st.nx w ρ' st'.h.get st'.nx w' → Q .normal a' w') → (Code.region id ops true).wpIn (Wr rd) 0 P Q a w
section
variable {P : Program} {G : Nat} {kp : Tr Nat} {mc : FuncId} {kn : Kn}
theorem code_ok (hD : Drawn P G) (hkn : KnOk P G kn) (hcl : CloneOk P mc) : ∀ n, SCode P G (evC P G kp mc kn n) := by
  intro n
  induction n using Nat.strongRecOn with
  | _ n IH =>
    intro rd nt km c st x st' h ρ r a w hro s Q hn
    cases n with
    | zero => cases h
    | succ n =>
      have hc := IH n (Nat.lt_succ_self n)
      have hcal : SCal P G (calA P kp mc kn (evC P G kp mc kn n)) := calA_ok hc hkn hcl
      have hyld : SYld P G (yldA (evC P G kp mc kn n)) := yldA_ok hc
      cases c with
      | skip => cases h; exact wpIn_skip (hn ρ a w s (.refl _ _ _))
      | region id ops draw =>
        obtain ⟨s1, h1, h⟩ := ob_eq h
        cases h
        have fin : ∀ ρ' a' w', SR G nt km ρ' s1 a' w' → Nx ρ st.h.get st.nx w ρ' s1.h.get s1.nx w' → Q .normal a' w' := fun ρ' a' w' s' n' => hn ρ' a' w' s'.fls n'
        cases draw with
        | false => exact wpIn_region_list (evL_ok (rd := r) hcal hyld _ s h1 fin)
        | true => exact hD _ _ _ _ _ _ _ hcal hyld h1 ρ a w s r id Q fin
      | seq x1 y1 =>
        obtain ⟨⟨z, s1⟩, h1, h⟩ := ob_eq (x := evC P G kp mc kn n rd nt km x1 st) (f := seqK (evC P G kp mc kn n) rd nt km y1) h
        refine wpIn_seq (hc rd nt km x1 st z s1 h1 ρ r a w hro s _ ?_)
        intro ρ' a' w' s' n'
        cases z with
        | normal => exact hc rd nt km y1 s1 x st' h ρ' r a' w' (hro.mono n'.le) s' Q fun ρ2 a2 w2 s2 n2 => hn ρ2 a2 w2 s2 (n'.trans n2)
        | exit id => cases h; exact hn ρ' a' w' s' n'
        | ret => cases h; exact hn ρ' a' w' s' n'
      | cond g x1 y1 =>
        obtain ⟨v, h1, h⟩ := ob_eq (x := opd G st.tm g) (f := condK (evC P G kp mc kn n) rd nt km x1 y1 st) h
        have hv := opdG (e := a) s.tr s.la.glb h1
        unfold condK at h
        generalize hg : a.eval g = gv at hv
        cases hv with
        | b z =>
          cases z with
          | true => exact wpIn_cond_true hg (hc rd nt km x1 st x st' h ρ r a w hro s Q hn)
          | false => exact wpIn_cond_false hg (hc rd nt km y1 st x st' h ρ r a w hro s Q hn)
        | _ => cases h
      | block id c =>
        obtain ⟨⟨z, s1⟩, h1, h⟩ := ob_eq (x := evC P G kp mc kn n rd nt km c st) (f := blockK id) h
        refine wpIn_block (hc rd nt km c st z s1 h1 ρ r a w hro s _ ?_)
        intro ρ' a' w' s' n'
        cases z with
        | normal => cases h; exact hn ρ' a' w' s' n'
        | ret => cases h; exact hn ρ' a' w' s' n'
        | exit m =>
          replace h : Bool.rec (motive := fun _ => Option (XA × St)) (some (.exit m, s1)) (some (.normal, s1)) (Nat.beq m id) = some (x, st') := h
          show if m = id then Q .normal a' w' else Q (.exit m) a' w'
          cases hb : Nat.beq m id with
          | true =>
            rw [hb] at h
            cases h
            rw [if_pos (Nat.eq_of_beq_eq_true hb)]
            exact hn ρ' a' w' s' n'
          | false =>
            rw [hb] at h
            cases h
            rw [if_neg (fun e => by subst e; simp at hb)]
            exact hn ρ' a' w' s' n'
      | loop c =>
        refine wpIn_loopN (fun m a' w' => ∃ ρ' st1, m ≤ n + 1 ∧ evC P G kp mc kn m rd nt km (.loop c) st1 = some (x, st') ∧ SR G nt km ρ' st1 a' w' ∧ Nx ρ st.h.get st.nx w ρ' st1.h.get st1.nx w') (n + 1) ⟨ρ, st, Nat.le_refl _, h, s, .refl _ _ _⟩ ?_
        rintro m a1 w1 ⟨ρ1, st1, hm, h1, s1, n1⟩
        cases m with
        | zero => cases h1
        | succ m =>
          obtain ⟨⟨z, s2⟩, h2, h3⟩ := ob_eq (x := evC P G kp mc kn m rd nt km c st1) (f := seqK (evC P G kp mc kn m) rd nt km (.loop c)) h1
          refine IH m (by omega) rd nt km c st1 z s2 h2 ρ1 r a1 w1 (hro.mono n1.le) s1 _ ?_
          intro ρ' a' w' s' n'
          cases z with
          | normal => exact ⟨m, Nat.lt_succ_self m, ρ', s2, by omega, h3, s', n1.trans n'⟩
          | exit id => cases h3; exact hn ρ' a' w' s' (n1.trans n')
          | ret => cases h3; exact hn ρ' a' w' s' (n1.trans n')
      | rangeFunc g ps asg body => exact rngA_ok (kp := kp) (mc := mc) hc hkn h s hro hn
      | exit id => cases h; exact wpIn_exit (hn ρ a w s (.refl _ _ _))
      | scope b => cases h
      | label l => cases h; exact wpIn_label (hn ρ a w s (.refl _ _ _))
      | goto l => cases h
      | ret => cases h; exact wpIn_ret (hn ρ a w s (.refl _ _ _))
      | refuse y => cases h
/-- THE READING IS RIGHT. -/
theorem evF_ok (hD : Drawn P G) (hkn : KnOk P G kn) (hcl : CloneOk P mc) {n : Nat} {f : FuncId} {args r : AV} {h h' : Tr AO} {nx nx' : Nat} (hf : Nat.beq f mc = false) (he : evF P G kp mc kn n f args h nx = some (r, h', nx')) : CalE P G f args h nx r h' nx' :=
  calA_enter (code_ok hD hkn hcl n) hkn hf he
end
#print axioms evF_ok
end Go.Proofs.YthlphddehdjfjaaGreatDoor
