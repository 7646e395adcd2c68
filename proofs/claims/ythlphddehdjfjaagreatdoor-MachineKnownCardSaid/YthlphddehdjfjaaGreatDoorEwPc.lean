/- A reading of closed calls that the kernel can run: the first pieces of code; closed calls that are read in pieces. -/
import Derived.Test.YthlphddehdjfjaaGreatDoorEwNm
namespace Go.Proofs.YthlphddehdjfjaaGreatDoor
open Go.RowKit
set_option linter.unusedVariables false
set_option linter.unusedSimpArgs false
set_option linter.unusedSectionVars false

/-- the code behind its first k pieces -/
def dropS : Nat → Code → Code
  | 0, c => c
  | k + 1, .seq _ b => dropS k b
  | _ + 1, c => c
/-- the first k pieces -/
noncomputable def evP (P : Program) (kp : Tr Nat) (mc : FuncId) (kn : Kn) (nt km n : Nat) : Nat → Code → St → Option St
  | 0, _, st => some st
  | k + 1, .seq a b, st => ob (evC P 1 kp mc kn n none nt km a st) fun q => match q.1 with | .normal => evP P kp mc kn nt km n k b q.2 | _ => none
  | _ + 1, _, _ => none
section
variable {P : Program} {kp : Tr Nat} {mc : FuncId} {kn : Kn} {nt km n : Nat} {F : XA → St → Prop}
theorem evP_ok (hD : Drawn P 1) (hkn : KnOk P 1 kn) (hcl : CloneOk P mc) : ∀ (k : Nat) (c : Code) (st s1 : St), evP P kp mc kn nt km n k c st = some s1 → CodeOk P nt km (dropS k c) s1 F → CodeOk P nt km c st F
  | 0, c, st, s1, h, hc => by cases h; exact hc
  | k + 1, c, st, s1, h, hc => by
    cases c with
    | seq a b =>
      obtain ⟨⟨x, s⟩, h1, h2⟩ := ob_eq (show ob (evC P 1 kp mc kn n none nt km a st) (fun q => match q.1 with | .normal => evP P kp mc kn nt km n k b q.2 | _ => none) = some s1 from h)
      cases x with
      | normal =>
        refine CodeOk.seq (CodeOk.ev hD hkn hcl h1) ?_
        rintro x s' ⟨rfl, rfl⟩
        exact ⟨rfl, evP_ok hD hkn hcl k b _ s1 h2 hc⟩
      | exit id => cases h2
      | ret => cases h2
    | _ => cases h
/-- THE FIRST PIECES, TO A STATE THAT IS WRITTEN DOWN. -/
theorem first_ok (hD : Drawn P 1) (hkn : KnOk P 1 kn) (hcl : CloneOk P mc) {k : Nat} {c : Code} {st s1 : St} (e : itB s1 (evP P kp mc kn nt km n k c st) = true) (h : CodeOk P nt km (dropS k c) s1 F) : CodeOk P nt km c st F := by
  cases hs : evP P kp mc kn nt km n k c st with
  | none => rw [hs] at e; cases e
  | some s =>
    rw [hs] at e
    exact evP_ok hD hkn hcl k c st s hs (h.less (subS_ok e))
/-- a loop in its block, read in parts, and what is behind it -/
theorem loop_then (hD : Drawn P 1) (hkn : KnOk P 1 kn) (hcl : CloneOk P mc) {id m : Nat} {b c : Code} {st s1 : St} (g : Goes P kp mc kn nt km n b (.exit id) s1 m st) (h : CodeOk P nt km c s1 F) : CodeOk P nt km (.seq (.block id (.loop b)) c) st F := by
  refine CodeOk.seq (F := fun x s => x = .normal ∧ s = s1) ((CodeOk.long hD hkn hcl g).block ?_) ?_
  · rintro x s ⟨rfl, rfl⟩
    exact ⟨by show (if id = id then XA.normal else .exit id) = .normal; rw [if_pos rfl], rfl⟩
  · rintro x s ⟨rfl, rfl⟩
    exact ⟨rfl, h⟩
/-- pieces, and then a group of a region and a loop, and what is behind it -/
theorem group_ok {kn2 : Kn} (hD : Drawn P 1) (hkn : KnOk P 1 kn) (hkn2 : KnOk P 1 kn2) (hcl : CloneOk P mc) {k id m : Nat} {c r b rest : Code} {st s1 s2 : St} (hc : dropS k c = .seq (.seq r (.block id (.loop b))) rest)
    (e : itB s1 (ob (evP P kp mc kn nt km n k c st) fun s => evP P kp mc kn nt km n 1 (.seq r (.block id (.loop b))) s) = true)
    (g : Goes P kp mc kn2 nt km n b (.exit id) s2 m s1) (h : CodeOk P nt km rest s2 F) : CodeOk P nt km c st F := by
  cases hs : evP P kp mc kn nt km n k c st with
  | none => rw [hs] at e; cases e
  | some s =>
    rw [hs] at e
    refine evP_ok hD hkn hcl k c st s hs ?_
    rw [hc]
    refine CodeOk.seq (F := fun x s => x = .normal ∧ s = s2) (first_ok hD hkn hcl (k := 1) (s1 := s1) e ((CodeOk.long hD hkn2 hcl g).block ?_)) ?_
    · rintro x s ⟨rfl, rfl⟩
      exact ⟨by show (if id = id then XA.normal else .exit id) = .normal; rw [if_pos rfl], rfl⟩
    · rintro x s ⟨rfl, rfl⟩
      exact ⟨rfl, h⟩
/-- the last round of a loop, to a state that is written down -/
noncomputable def lastB (id : Nat) (s1 : St) (x : Option (XA × St)) : Bool := match x with
  | some (.exit i, s) => Bool.and (Nat.beq i id) (subS s1 s)
  | _ => false
theorem last_goes {id : Nat} {c : Code} {st s1 : St} (e : lastB id s1 (evC P 1 kp mc kn n none nt km c st) = true) : ∃ s, Goes P kp mc kn nt km n c (.exit id) s 0 st ∧ Sub s1 s := by
  unfold lastB at e
  split at e
  · rename_i i s h
    obtain ⟨e1, e2⟩ := (Bool.and_eq_true _ _).mp e
    have := Nat.eq_of_beq_eq_true e1
    subst this
    exact ⟨s, .stop h (by intro h; cases h), subS_ok e2⟩
  · cases e
/-- code ends in an answer that is true -/
def isTr (v : AV) (_ : Tr AO) (_ : Nat) : Bool := match v with
  | .b true => true
  | _ => false
noncomputable def trueB (P : Program) (rs : List ResultVar) (x : Option (XA × St)) : Bool := match x with
  | some q => ansB P rs isTr [q]
  | none => false
def TrueEnd (P : Program) (rs : List ResultVar) (x : XA) (s : St) : Prop := (x = .normal ∨ x = .ret) ∧ ∃ h' v, dropM s.ms s.h = some h' ∧ resA P s.tm h' rs = some v ∧ v = .b true
theorem trueB_ok (hD : Drawn P 1) (hkn : KnOk P 1 kn) (hcl : CloneOk P mc) {rs : List ResultVar} {c : Code} {st : St} (e : trueB P rs (evC P 1 kp mc kn n none nt km c st) = true) : CodeOk P nt km c st (TrueEnd P rs) := by
  cases hx : evC P 1 kp mc kn n none nt km c st with
  | none => rw [hx] at e; cases e
  | some q =>
    rw [hx] at e
    obtain ⟨x, s⟩ := q
    refine (CodeOk.ev hD hkn hcl hx).mono ?_
    rintro y s' ⟨rfl, rfl⟩
    obtain ⟨h1, h', v, h2, h3, h4⟩ := ansB_ok (ok := isTr) (show ansB P rs isTr [(y, s')] = true from e) _ _ (List.mem_singleton.2 rfl)
    refine ⟨h1, h', v, h2, h3, ?_⟩
    unfold isTr at h4
    split at h4
    · rfl
    · cases h4
/-- A CLOSED CALL THAT IS READ IN PIECES AND ENDS IN TRUE RETURNS TRUE. -/
theorem closed_pieces {f : FuncId} {fn : Func} {c : Code} (he : entA P f = some (fn, c)) (hc : CodeOk P fn.ntmps (kmA kp f) c ⟨⟨[], .e⟩, .e, 1, []⟩ (TrueEnd P fn.results.toList)) (w : World) :
    CallsIn Wd 0 P f #[] w fun e w' => e = .returned (.bool true) ∧ Keeps (fun _ => False) w w' := by
  have htab : (AV.nil).tab 40 = (.e : Tr AV) := rfl
  refine (call_pieces (O := fun v _ _ => v = .b true) (args := .nil) he (by rfl) (by show Nat.beq (Nat.land (kmA kp f) 0) 0 = true; simp) (by rw [htab]; exact hc) (fun x s hx => hx) (ρ := ρ1) (vs := []) .nil (lay1 w)).mono ?_
  rintro e w' ⟨r, h', n', v, ρ', rfl, rfl, fin⟩
  have := fin.r
  cases this
  exact ⟨rfl, fin.n.kp.mono fun x _ hx => by obtain ⟨i, o, C, h, _⟩ := hx; cases h⟩
end
#print axioms closed_pieces
end Go.Proofs.YthlphddehdjfjaaGreatDoor
