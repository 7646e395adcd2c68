/- A reading of closed calls that the kernel can run: a long loop, read in parts. -/
import Derived.Test.YthlphddehdjfjaaGreatDoorEwFr
namespace Go.Proofs.YthlphddehdjfjaaGreatDoor
open Go.RowKit
set_option linter.unusedVariables false
set_option linter.unusedSimpArgs false
set_option linter.unusedSectionVars false

/-- a state says no more than another -/
structure Sub (s0 s : St) : Prop where
  tm : ∀ k c, s0.tm.get k = some c → s.tm.get k = some c
  t : ∀ k c, s0.tm.t.get k = some c → ∃ c', s.tm.t.get k = some c'
  h : Le' s0.h.get s.h.get
  nx : s0.nx = s.nx
  ms : s0.ms = s.ms
theorem Sub.ok {s0 s : St} (q : Sub s0 s) {G nt km : Nat} {ρ : Rn} {a : Act} {w : World} (r : SR G nt km ρ s a w) : SR G nt km ρ s0 a w ∧ Nx ρ s.h.get s.nx w ρ s0.h.get s0.nx w := by
  refine ⟨⟨⟨r.tr.1, fun k c e => r.tr.2 k c (q.tm k c e)⟩, fun k hb => ?_, ?_, ?_⟩, ?_⟩
  · cases e : s0.tm.t.get k with
    | none => rfl
    | some c =>
      obtain ⟨c', h⟩ := q.t k c e
      rw [r.km k hb] at h
      cases h
  · rw [q.nx]; exact r.la.less q.h
  · rw [q.ms]; exact r.df
  · rw [q.nx]; exact .less q.h
noncomputable def subS (s0 s : St) : Bool := match s0.tm.l, s.tm.l, s0.ms, s.ms with
  | [], [], [], [] => Bool.and (s0.tm.t.subB AV.eqb s.tm.t) (Bool.and (subT s0.h s.h) (Nat.beq s0.nx s.nx))
  | _, _, _, _ => false
theorem subS_ok {s0 s : St} (h : subS s0 s = true) : Sub s0 s := by
  unfold subS at h
  split at h
  · rename_i h1 h2 h3 h4
    obtain ⟨e1, h⟩ := (Bool.and_eq_true _ _).mp h
    obtain ⟨e2, e3⟩ := (Bool.and_eq_true _ _).mp h
    have hg : ∀ k, s0.tm.get k = s0.tm.t.get k := fun k => by unfold En.get; rw [h1]; rfl
    have hg' : ∀ k, s.tm.get k = s.tm.t.get k := fun k => by unfold En.get; rw [h2]; rfl
    have ht : ∀ k c, s0.tm.t.get k = some c → s.tm.t.get k = some c := fun k c e => by
      obtain ⟨y, a, b⟩ := Tr.subB_ok _ _ e1 k c e
      rw [AV.eqb_ok b]; exact a
    exact ⟨fun k c e => by rw [hg']; rw [hg] at e; exact ht k c e, fun k c e => ⟨c, ht k c e⟩, subT_ok e2, Nat.eq_of_beq_eq_true e3, h3.trans h4.symm⟩
  · cases h
/-- from this state the loop ends so, after so many rounds -/
inductive Goes (P : Program) (kp : Tr Nat) (mc : FuncId) (kn : Kn) (nt km n : Nat) (c : Code) (x : XA) (st' : St) : Nat → St → Prop
  | stop {st : St} (h : evC P 1 kp mc kn n none nt km c st = some (x, st')) (hx : x ≠ .normal) : Goes P kp mc kn nt km n c x st' 0 st
  | step {m : Nat} {st s1 : St} (h : evC P 1 kp mc kn n none nt km c st = some (.normal, s1)) (g : Goes P kp mc kn nt km n c x st' m s1) : Goes P kp mc kn nt km n c x st' (m + 1) st
  | less {m : Nat} {st s0 : St} (q : Sub s0 st) (g : Goes P kp mc kn nt km n c x st' m s0) : Goes P kp mc kn nt km n c x st' m st
/-- so many rounds of a loop's body -/
noncomputable def itC (P : Program) (kp : Tr Nat) (mc : FuncId) (kn : Kn) (nt km n : Nat) (c : Code) (k : Nat) : St → Option St :=
  Nat.rec (motive := fun _ => St → Option St) (fun st => some st) (fun _ ih st => ob (evC P 1 kp mc kn n none nt km c st) fun q => XA.rec (motive := fun _ => Option St) (ih q.2) (fun _ => none) none q.1) k
noncomputable def itB (s1 : St) (x : Option St) : Bool := Option.rec (motive := fun _ => Bool) false (fun s => subS s1 s) x
section
variable {P : Program} {kp : Tr Nat} {mc : FuncId} {kn : Kn} {nt km n : Nat} {c : Code} {x : XA} {st' : St}
theorem it_goes {m : Nat} : ∀ (k : Nat) {st s1 : St}, itC P kp mc kn nt km n c k st = some s1 → Goes P kp mc kn nt km n c x st' m s1 → Goes P kp mc kn nt km n c x st' (m + k) st
  | 0, st, s1, h, g => by cases h; exact g
  | k + 1, st, s1, h, g => by
    replace h : ob (evC P 1 kp mc kn n none nt km c st) (fun q => XA.rec (motive := fun _ => Option St) (itC P kp mc kn nt km n c k q.2) (fun _ => none) none q.1) = some s1 := h
    obtain ⟨⟨z, s⟩, h1, h2⟩ := ob_eq h
    cases z with
    | normal => exact .step h1 (it_goes k h2 g)
    | exit id => cases h2
    | ret => cases h2
/-- A PART OF A LOOP'S ROUNDS. -/
theorem part {m k : Nat} {st s1 : St} (e : itB s1 (itC P kp mc kn nt km n c k st) = true) (g : Goes P kp mc kn nt km n c x st' m s1) : Goes P kp mc kn nt km n c x st' (m + k) st := by
  cases h : itC P kp mc kn nt km n c k st with
  | none => rw [h] at e; cases e
  | some s => rw [h] at e; exact it_goes k h (.less (subS_ok e) g)
theorem Goes.round (hD : Drawn P 1) (hkn : KnOk P 1 kn) (hcl : CloneOk P mc) {m : Nat} {st : St} (g : Goes P kp mc kn nt km n c x st' m st) : ∀ {ρ : Rn} {r : Option Nat} {a : Act} {w : World}, RO ρ none r → SR 1 nt km ρ st a w → ∀ Q : Exit → Act → World → Prop,
    (∀ ρ' a' w', SR 1 nt km ρ' st' a' w' → Nx ρ st.h.get st.nx w ρ' st'.h.get st'.nx w' → Q x.toE a' w') →
    c.wpIn (Wr r) 0 P (Exit.then (fun a' w' => ∃ n', n' < m ∧ ∃ ρ' s1, Goes P kp mc kn nt km n c x st' n' s1 ∧ SR 1 nt km ρ' s1 a' w' ∧ Nx ρ st.h.get st.nx w ρ' s1.h.get s1.nx w') Q) a w := by
  induction g with
  | @stop st h hx =>
    intro ρ r a w hro s Q hn
    refine code_ok hD hkn hcl n none nt km c st x st' h ρ r a w hro s _ ?_
    intro ρ' a' w' s' n'
    cases x with
    | normal => exact absurd rfl hx
    | exit id => exact hn ρ' a' w' s' n'
    | ret => exact hn ρ' a' w' s' n'
  | @step m st s1 h g ih =>
    intro ρ r a w hro s Q hn
    refine code_ok hD hkn hcl n none nt km c st .normal s1 h ρ r a w hro s _ ?_
    intro ρ' a' w' s' n'
    exact ⟨m, Nat.lt_succ_self m, ρ', s1, g, s', n'⟩
  | @less m st s0 q g ih =>
    intro ρ r a w hro s Q hn
    obtain ⟨s2, n2⟩ := q.ok s
    refine wpIn_mono (ih hro s2 Q (fun ρ' a' w' s' n' => hn ρ' a' w' s' (n2.trans n'))) ?_
    intro e a' w' hq
    cases e with
    | normal =>
      obtain ⟨n', hlt, ρ', s3, g3, s', n'⟩ := hq
      exact ⟨_, hlt, ρ', s3, g3, s', n2.trans n'⟩
    | exit id => exact hq
    | goto l => exact hq
    | ret => exact hq
    | panic ch => exact hq
    | outgrown => exact hq
/-- A LOOP THAT IS READ IN PARTS. -/
theorem loop_goes (hD : Drawn P 1) (hkn : KnOk P 1 kn) (hcl : CloneOk P mc) {m : Nat} {st : St} (g : Goes P kp mc kn nt km n c x st' m st) {ρ : Rn} {r : Option Nat} {a : Act} {w : World} (hro : RO ρ none r) (s : SR 1 nt km ρ st a w) (Q : Exit → Act → World → Prop)
    (hn : ∀ ρ' a' w', SR 1 nt km ρ' st' a' w' → Nx ρ st.h.get st.nx w ρ' st'.h.get st'.nx w' → Q x.toE a' w') : (Code.loop c).wpIn (Wr r) 0 P Q a w := by
  refine wpIn_loopN (fun m a' w' => ∃ ρ' st1, Goes P kp mc kn nt km n c x st' m st1 ∧ SR 1 nt km ρ' st1 a' w' ∧ Nx ρ st.h.get st.nx w ρ' st1.h.get st1.nx w') m ⟨ρ, st, g, s, .refl _ _ _⟩ ?_
  rintro k a1 w1 ⟨ρ1, st1, g1, s1, n1⟩
  refine wpIn_mono (g1.round hD hkn hcl (hro.mono n1.le) s1 Q (fun ρ' a' w' s' n' => hn ρ' a' w' s' (n1.trans n'))) ?_
  intro e a' w' hq
  cases e with
  | normal =>
    obtain ⟨n', hlt, ρ', s2, g2, s', n'⟩ := hq
    exact ⟨_, hlt, ρ', s2, g2, s', n1.trans n'⟩
  | exit id => exact hq
  | goto l => exact hq
  | ret => exact hq
  | panic ch => exact hq
  | outgrown => exact hq
end
#print axioms loop_goes
end Go.Proofs.YthlphddehdjfjaaGreatDoor
