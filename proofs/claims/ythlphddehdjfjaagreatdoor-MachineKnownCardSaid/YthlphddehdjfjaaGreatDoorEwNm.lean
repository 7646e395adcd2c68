/- A reading of closed calls that the kernel can run: code with ranges over maps, every order followed. -/
import Derived.Test.YthlphddehdjfjaaGreatDoorEwCk
namespace Go.Proofs.YthlphddehdjfjaaGreatDoor
open Go.RowKit
set_option linter.unusedVariables false
set_option linter.unusedSimpArgs false
set_option linter.unusedSectionVars false

/-- rounds of a loop, each of which may come to several states -/
noncomputable def itM (f : St → Option (List (XA × St))) : Nat → St → Option (List (XA × St))
  | 0, _ => none
  | k + 1, st => ob (f st) fun L => ob (allO (fun q => match q.1 with | .normal => itM f k q.2 | _ => some [q]) L) fun LL => some LL.flatten
section
variable (P : Program) (kp : Tr Nat) (mc : FuncId) (kn : Kn) (nt km n m : Nat)
/-- what code may come to: read as one, or, where that fails, in its parts, every order of a range over a map followed -/
noncomputable def evM (c : Code) (st : St) : Option (List (XA × St)) :=
  match evC P 1 kp mc kn n none nt km c st with
  | some r => some [r]
  | none => match c with
    | .seq a b => ob (evM a st) fun L => ob (allO (fun q => match q.1 with | .normal => evM b q.2 | _ => some [q]) L) fun LL => some LL.flatten
    | .block id b => ob (evM b st) fun L => some (L.map fun q => (q.1.out id, q.2))
    | .loop b => itM (evM b) m st
    | .region id ops draw => ob (rgN P kp mc kn nt km n (.region id ops draw) st) fun L => some (L.map fun s => (.normal, s))
    | _ => none
end
section
variable {P : Program} {kp : Tr Nat} {mc : FuncId} {kn : Kn} {nt km n m : Nat}
theorem evM_ok (hD : Drawn P 1) (hkn : KnOk P 1 kn) (hcl : CloneOk P mc) (c : Code) : ∀ (st : St) (L : List (XA × St)), evM P kp mc kn nt km n m c st = some L → CodeOk P nt km c st (fun x s => (x, s) ∈ L) := by
  induction c with
  | seq a b iha ihb =>
    intro st L h
    unfold evM at h
    split at h
    · rename_i r hr
      cases h
      exact (CodeOk.ev hD hkn hcl hr).mono fun x s ⟨e1, e2⟩ => by subst e1; subst e2; simp
    · obtain ⟨L0, h1, h⟩ := ob_eq h
      obtain ⟨LL, h2, h⟩ := ob_eq h
      cases h
      intro ρ a' w s Q hn
      refine wpIn_seq (iha st L0 h1 ρ a' w s _ ?_)
      intro x s1 hm ρ1 a1 w1 s1' n1
      obtain ⟨y, hy, h3⟩ := allO_ok h2 _ hm
      cases x with
      | normal => exact ihb s1 y h3 ρ1 a1 w1 s1' Q fun x2 s2 hm2 ρ2 a2 w2 s2' n2 => hn x2 s2 (List.mem_flatten.2 ⟨y, hy, hm2⟩) ρ2 a2 w2 s2' (n1.trans n2)
      | exit id => cases h3; exact hn _ s1 (List.mem_flatten.2 ⟨_, hy, by simp⟩) ρ1 a1 w1 s1' n1
      | ret => cases h3; exact hn _ s1 (List.mem_flatten.2 ⟨_, hy, by simp⟩) ρ1 a1 w1 s1' n1
  | block id b ih =>
    intro st L h
    unfold evM at h
    split at h
    · rename_i r hr
      cases h
      exact (CodeOk.ev hD hkn hcl hr).mono fun x s ⟨e1, e2⟩ => by subst e1; subst e2; simp
    · obtain ⟨L0, h1, h⟩ := ob_eq h
      cases h
      exact (ih st L0 h1).block fun x s hm => List.mem_map.2 ⟨(x, s), hm, rfl⟩
  | loop b ih =>
    intro st L h
    unfold evM at h
    split at h
    · rename_i r hr
      cases h
      exact (CodeOk.ev hD hkn hcl hr).mono fun x s ⟨e1, e2⟩ => by subst e1; subst e2; simp
    · intro ρ a w s Q hn
      refine wpIn_loopN (fun k a' w' => ∃ ρ' st1 L1, itM (evM P kp mc kn nt km n m b) k st1 = some L1 ∧ (∀ q ∈ L1, q ∈ L) ∧ SR 1 nt km ρ' st1 a' w' ∧ Nx ρ st.h.get st.nx w ρ' st1.h.get st1.nx w') m ⟨ρ, st, L, h, fun _ h => h, s, .refl _ _ _⟩ ?_
      rintro k a1 w1 ⟨ρ1, st1, L1, h1, hs, s1, n1⟩
      cases k with
      | zero => cases h1
      | succ k =>
        obtain ⟨L0, h2, h3⟩ := ob_eq h1
        obtain ⟨LL, h4, h5⟩ := ob_eq h3
        cases h5
        refine ih st1 L0 h2 ρ1 a1 w1 s1 _ ?_
        intro x s2 hm ρ2 a2 w2 s2' n2
        obtain ⟨y, hy, h6⟩ := allO_ok h4 _ hm
        cases x with
        | normal => exact ⟨k, Nat.lt_succ_self k, ρ2, s2, y, h6, fun q hq => hs q (List.mem_flatten.2 ⟨y, hy, hq⟩), s2', n1.trans n2⟩
        | exit id => cases h6; exact hn _ s2 (hs _ (List.mem_flatten.2 ⟨_, hy, by simp⟩)) ρ2 a2 w2 s2' (n1.trans n2)
        | ret => cases h6; exact hn _ s2 (hs _ (List.mem_flatten.2 ⟨_, hy, by simp⟩)) ρ2 a2 w2 s2' (n1.trans n2)
  | region id ops draw =>
    intro st L h
    unfold evM at h
    split at h
    · rename_i r hr
      cases h
      exact (CodeOk.ev hD hkn hcl hr).mono fun x s ⟨e1, e2⟩ => by subst e1; subst e2; simp
    · obtain ⟨L0, h1, h⟩ := ob_eq h
      cases h
      intro ρ a w s Q hn
      exact rgN_ok hD hkn hcl h1 s Q fun s1 hm ρ1 a1 w1 s1' n1 => hn .normal s1 (List.mem_map.2 ⟨s1, hm, rfl⟩) ρ1 a1 w1 s1' n1
  | _ =>
    intro st L h
    unfold evM at h
    split at h
    · rename_i r hr
      cases h
      exact (CodeOk.ev hD hkn hcl hr).mono fun x s ⟨e1, e2⟩ => by subst e1; subst e2; simp
    · cases h
/-- is each end of a call's code an answer, and is it right by a test -/
noncomputable def ansB (P : Program) (rs : List ResultVar) (ok : AV → Tr AO → Nat → Bool) (L : List (XA × St)) : Bool := L.all fun q => match q.1 with
  | .exit _ => false
  | _ => match dropM q.2.ms q.2.h with
    | some h' => match resA P q.2.tm h' rs with
      | some v => ok v h' q.2.nx
      | none => false
    | none => false
theorem ansB_ok {rs : List ResultVar} {ok : AV → Tr AO → Nat → Bool} {L : List (XA × St)} (h : ansB P rs ok L = true) (x : XA) (s : St) (hm : (x, s) ∈ L) : (x = .normal ∨ x = .ret) ∧ ∃ h' v, dropM s.ms s.h = some h' ∧ resA P s.tm h' rs = some v ∧ ok v h' s.nx = true := by
  have := List.all_eq_true.1 h (x, s) hm
  dsimp only at this
  split at this
  · cases this
  · rename_i hx
    split at this
    · rename_i h' h1
      split at this
      · rename_i v h2
        refine ⟨?_, h', v, h1, h2, this⟩
        cases x with
        | normal => exact .inl rfl
        | ret => exact .inr rfl
        | exit id => exact absurd rfl (hx id)
      · cases this
    · cases this
/-- is the answer such a new block, that says A -/
noncomputable def okF (nx : Nat) (len : Option Nat) (A : AO) (h : Tr AO) (v : AV) (h' : Tr AO) (_ : Nat) : Bool := match len, v with
  | some len, .gs i l => Bool.and (Bool.and (Nat.beq l len) (Nat.ble nx i)) (Bool.and (match h'.get i with | some A' => aoB A A' | none => false) (subT h h'))
  | none, .p i o => Bool.and (Bool.and (Nat.beq o 0) (Nat.ble nx i)) (Bool.and (match h'.get i with | some A' => aoB A A' | none => false) (subT h h'))
  | _, _ => false
noncomputable def freshB (P : Program) (kp : Tr Nat) (mc : FuncId) (kn : Kn) (n m : Nat) (f : FuncId) (args : AV) (h : Tr AO) (nx : Nat) (len : Option Nat) (A : AO) : Bool := match entA P f with
  | some q => Bool.and (Bool.and (Nat.ble args.lng q.1.ntmps) (Nat.beq (Nat.land (kmA kp f) (2 ^ args.lng - 1)) (2 ^ args.lng - 1))) (Bool.and (Bool.and (bdO 0 A) (bdT nx h))
    (match evM P kp mc kn q.1.ntmps (kmA kp f) n m q.2 ⟨⟨[], args.tab 40⟩, h, nx, []⟩ with
      | some L => ansB P q.1.results.toList (okF nx len A h) L
      | none => false))
  | none => false
/-- A CALL THAT RANGES OVER A MAP AND ANSWERS WITH A NEW ROW. -/
theorem fresh_read (hm : P.follows .mixedOrders = true) (hkn : KnOk P 1 kn) (hcl : CloneOk P mc) {f : FuncId} {args : AV} {h : Tr AO} {nx : Nat} {len : Option Nat} {A : AO} (e : freshB P kp mc kn n m f args h nx len A = true) :
    CalE P 1 f args h nx (mkF len nx) (h.set nx A) (nx + 1) := by
  unfold freshB at e
  split at e
  · rename_i q he
    obtain ⟨fn, c⟩ := q
    obtain ⟨e1, e2⟩ := (Bool.and_eq_true _ _).mp e
    obtain ⟨e3, e4⟩ := (Bool.and_eq_true _ _).mp e1
    obtain ⟨e5, e6⟩ := (Bool.and_eq_true _ _).mp e2
    obtain ⟨e7, e8⟩ := (Bool.and_eq_true _ _).mp e5
    split at e6
    · rename_i L hL
      refine CalE.fresh (O := fun v h' n' => okF nx len A h v h' n' = true) (entA_eq he).2.2
        (fun ρ vs w hr l => call_pieces he e3 e4 (evM_ok (drawn_ok hm) hkn hcl c _ L hL) (fun x s hx => ansB_ok e6 x s hx) hr l) ?_ e7 e8
      intro r h' n' ho
      unfold okF at ho
      split at ho
      · rename_i len i l
        obtain ⟨o1, o2⟩ := (Bool.and_eq_true _ _).mp ho
        obtain ⟨o3, o4⟩ := (Bool.and_eq_true _ _).mp o1
        obtain ⟨o5, o6⟩ := (Bool.and_eq_true _ _).mp o2
        have := Nat.eq_of_beq_eq_true o3
        subst this
        split at o5
        · rename_i A' hA'
          exact ⟨i, A', rfl, Nat.le_of_ble_eq_true o4, hA', o5, subT_ok o6⟩
        · cases o5
      · rename_i i o
        obtain ⟨o1, o2⟩ := (Bool.and_eq_true _ _).mp ho
        obtain ⟨o3, o4⟩ := (Bool.and_eq_true _ _).mp o1
        obtain ⟨o5, o6⟩ := (Bool.and_eq_true _ _).mp o2
        have := Nat.eq_of_beq_eq_true o3
        subst this
        split at o5
        · rename_i A' hA'
          exact ⟨i, A', rfl, Nat.le_of_ble_eq_true o4, hA', o5, subT_ok o6⟩
        · cases o5
      · cases ho
    · cases e6
  · cases e
end
#print axioms fresh_read
end Go.Proofs.YthlphddehdjfjaaGreatDoor
