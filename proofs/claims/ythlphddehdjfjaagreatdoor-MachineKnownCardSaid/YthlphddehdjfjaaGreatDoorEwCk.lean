/- A reading of closed calls that the kernel can run: code that is read in pieces; a call that answers with a new row. -/
import Derived.Test.YthlphddehdjfjaaGreatDoorEwNd
namespace Go.Proofs.YthlphddehdjfjaaGreatDoor
open Go.RowKit
set_option linter.unusedVariables false
set_option linter.unusedSimpArgs false
set_option linter.unusedSectionVars false

/-- from this state the code comes to one of these ends -/
def CodeOk (P : Program) (nt km : Nat) (c : Code) (st : St) (F : XA → St → Prop) : Prop :=
  ∀ ρ a w, SR 1 nt km ρ st a w → ∀ Q : Exit → Act → World → Prop, (∀ x st', F x st' → ∀ ρ' a' w', SR 1 nt km ρ' st' a' w' → Nx ρ st.h.get st.nx w ρ' st'.h.get st'.nx w' → Q x.toE a' w') → c.wpIn (Wr none) 0 P Q a w
section
variable {P : Program} {kp : Tr Nat} {mc : FuncId} {kn : Kn} {nt km n nx : Nat} {a b c : Code} {st s0 s1 : St} {F F' : XA → St → Prop} {x : XA}
theorem CodeOk.mono (h : CodeOk P nt km c st F) (hF : ∀ x s, F x s → F' x s) : CodeOk P nt km c st F' := fun ρ a w s Q hn => h ρ a w s Q fun x st' hf => hn x st' (hF x st' hf)
theorem CodeOk.less (h : CodeOk P nt km c s0 F) (q : Sub s0 st) : CodeOk P nt km c st F := fun ρ a w s Q hn => by
  obtain ⟨s2, n2⟩ := q.ok s
  exact h ρ a w s2 Q fun x st' hf ρ' a' w' s' n' => hn x st' hf ρ' a' w' s' (n2.trans n')
theorem CodeOk.ev (hD : Drawn P 1) (hkn : KnOk P 1 kn) (hcl : CloneOk P mc) (h : evC P 1 kp mc kn n none nt km c st = some (x, s1)) : CodeOk P nt km c st (fun y s => y = x ∧ s = s1) := fun ρ a w s Q hn =>
  code_ok hD hkn hcl n none nt km c st x s1 h ρ none a w trivial s Q (hn x s1 ⟨rfl, rfl⟩)
theorem CodeOk.seq (h : CodeOk P nt km a st F) (hk : ∀ x s, F x s → x = .normal ∧ CodeOk P nt km b s F') : CodeOk P nt km (.seq a b) st F' := fun ρ a w s Q hn =>
  wpIn_seq (h ρ a w s _ fun x st' hf ρ1 a1 w1 s1 n1 => by
    obtain ⟨rfl, h2⟩ := hk x st' hf
    exact h2 ρ1 a1 w1 s1 Q fun y s2 hf2 ρ2 a2 w2 s2' n2 => hn y s2 hf2 ρ2 a2 w2 s2' (n1.trans n2))
def XA.out (id : Nat) : XA → XA
  | .exit m => if m = id then .normal else .exit m
  | x => x
theorem CodeOk.block {id : Nat} (h : CodeOk P nt km c st F) (hk : ∀ x s, F x s → F' (x.out id) s) : CodeOk P nt km (.block id c) st F' := fun ρ a w s Q hn =>
  wpIn_block (h ρ a w s _ fun x st' hf ρ1 a1 w1 s1 n1 => by
    have h2 := hn _ st' (hk x st' hf) ρ1 a1 w1 s1 n1
    cases x with
    | normal => exact h2
    | ret => exact h2
    | exit m =>
      show if m = id then Q .normal a1 w1 else Q (.exit m) a1 w1
      replace h2 : Q (XA.toE (if m = id then .normal else .exit m)) a1 w1 := h2
      by_cases e : m = id
      · rw [if_pos e] at h2 ⊢; exact h2
      · rw [if_neg e] at h2 ⊢; exact h2)
theorem CodeOk.loop (hD : Drawn P 1) (hkn : KnOk P 1 kn) (hcl : CloneOk P mc) {m : Nat} (g : GoN P kp mc kn nt km n c F m st) : CodeOk P nt km (.loop c) st F := fun ρ a w s Q hn => loop_goN (r := none) hD hkn hcl g trivial s Q hn
theorem CodeOk.long (hD : Drawn P 1) (hkn : KnOk P 1 kn) (hcl : CloneOk P mc) {m : Nat} (g : Goes P kp mc kn nt km n c x s1 m st) : CodeOk P nt km (.loop c) st (fun y s => y = x ∧ s = s1) := fun ρ a w s Q hn =>
  loop_goes (r := none) hD hkn hcl g trivial s Q (hn x s1 ⟨rfl, rfl⟩)
/-- a call whose code was read in pieces -/
theorem call_pieces {f : FuncId} {fn : Func} (he : entA P f = some (fn, c)) {args : AV} {h : Tr AO} {O : AV → Tr AO → Nat → Prop} (hlen : Nat.ble args.lng fn.ntmps = true) (hmask : Nat.beq (Nat.land (kmA kp f) (2 ^ args.lng - 1)) (2 ^ args.lng - 1) = true)
    (hc : CodeOk P fn.ntmps (kmA kp f) c ⟨⟨[], args.tab 40⟩, h, nx, []⟩ F)
    (hF : ∀ x s, F x s → (x = .normal ∨ x = .ret) ∧ ∃ h' v, dropM s.ms s.h = some h' ∧ resA P s.tm h' fn.results.toList = some v ∧ O v h' s.nx)
    {ρ : Rn} {vs : List Value} {w : World} (hr : R ρ args (.l vs)) (l : Lay 1 ρ h.get nx w) :
    CallsIn Wd 0 P f ⟨vs⟩ w fun e w' => ∃ r h' n' v ρ', O r h' n' ∧ e = .returned v ∧ Fin' 1 ρ h.get nx w ρ' r h'.get n' v w' := by
  obtain ⟨hf, hb, _⟩ := entA_eq he
  have hlen := Nat.le_of_ble_eq_true hlen
  have hmask := Nat.eq_of_beq_eq_true hmask
  refine callsIn_of_wp_marks hf hb trivial ?_
  have s0 : SR 1 fn.ntmps (kmA kp f) ρ ⟨⟨[], args.tab 40⟩, h, nx, []⟩ { tmps := ⟨vs⟩ ++ Array.replicate (fn.ntmps - (⟨vs⟩ : Array Value).size) undef, defers := [] } w :=
    ⟨args_ok hr hlen 40, fun k hb => by
      show (args.tab 40).get k = none
      cases hg : (args.tab 40).get k with
      | none => rfl
      | some c =>
        have := hr.lt (tab_get 40 args k c hg)
        have := mask_ok hmask hb
        omega, l, .nil⟩
  refine hc ρ _ w s0 _ ?_
  intro x s1 hf1 ρ' a' w' s' n'
  obtain ⟨hx, h', v, h3, h4, hO⟩ := hF x s1 hf1
  have fin : LeavesInM Wd 0 P fn a'.tmps (fun e w' => ∃ r h' n' v ρ', O r h' n' ∧ e = .returned v ∧ Fin' 1 ρ h.get nx w ρ' r h'.get n' v w') a'.defers .returning w' := by
    refine leaves_ok s'.df h3 s'.la fun w2 l2 n2 => ?_
    obtain ⟨z, e1, e2⟩ := resA_ok s'.tr l2 h4
    exact ⟨z, e2, v, h', s1.nx, z, ρ', hO, rfl, e1, l2, n'.trans n2⟩
  rcases hx with rfl | rfl
  · exact fin
  · exact fin
/-- all ids of a block are below n -/
noncomputable def bdO (n : Nat) (o : AO) : Bool := match o with
  | .c _ _ u => u.subB (fun x _ => x.bd n) u
  | .gr _ _ u => u.subB (fun x _ => x.bd n) u
  | .mp es _ => List.rec (motive := fun _ => Bool) true (fun e _ ih => Bool.and (Bool.and (e.k.bd n) (e.v.bd n)) ih) es
  | _ => false
noncomputable def bdT (n : Nat) (h : Tr AO) : Bool := h.subB (fun o _ => bdO n o) h
theorem CR.bd {ρ ρ' : Rn} {u : Tr AV} {cs : Array Value} {n : Nat} (h : CR ρ u cs) (hb : u.subB (fun x _ => x.bd n) u = true) (hl : (rst ρ n).le ρ') : CR ρ' u cs := fun j c e => by
  obtain ⟨v, h1, ho, h2⟩ := h j c e
  obtain ⟨_, _, h3⟩ := Tr.subB_ok u u hb j c e
  exact ⟨v, h1, ho, (h2.bd h3).mono hl⟩
theorem MR.bd {ρ ρ' : Rn} {n : Nat} (hl : (rst ρ n).le ρ') {es : List ME} {ms : List MapEntry} (h : MR ρ es ms) (hb : List.rec (motive := fun _ => Bool) true (fun e _ ih => Bool.and (Bool.and (e.k.bd n) (e.v.bd n)) ih) es = true) : MR ρ' es ms := by
  induction h with
  | nil => exact .nil
  | @cons e m es ms hk hv hb' _ ih =>
    obtain ⟨h1, h2⟩ := (Bool.and_eq_true _ _).mp (show Bool.and (Bool.and (e.k.bd n) (e.v.bd n)) (List.rec (motive := fun _ => Bool) true (fun e _ ih => Bool.and (Bool.and (e.k.bd n) (e.v.bd n)) ih) es) = true from hb)
    obtain ⟨h3, h4⟩ := (Bool.and_eq_true _ _).mp h1
    exact .cons ((hk.bd h3).mono hl) ((hv.bd h4).mono hl) hb' (ih h2)
theorem OR.bd {ρ ρ' : Rn} {C n : Nat} {o : AO} {x : Obj} (h : OR ρ C o x) (hb : bdO n o = true) (hl : (rst ρ n).le ρ') : OR ρ' C o x := by
  cases h with
  | c hs hc => exact .c hs (CR.bd hc hb hl)
  | gr hs hc => exact .gr hs (CR.bd hc hb hl)
  | mp hm => exact .mp (hm.bd hl hb)
  | _ => cases hb
/-- an answer that is a new block: a row of so many that has grown, or a pointer -/
def mkF : Option Nat → Nat → AV
  | some len, i => .gs i len
  | none, i => .p i 0
theorem mkF_ok {ρ ρ2 : Rn} {k : Option Nat} {i j bk C : Nat} {v : Value} (g1 : ρ i = some (bk, C)) (e1 : ρ2 j = some (bk, C)) (h : R ρ (mkF k i) (.v v)) : R ρ2 (mkF k j) (.v v) := by
  cases k with
  | none =>
    cases h with
    | p hp =>
      rw [g1] at hp
      cases hp
      exact .p e1
  | some len =>
    cases h with
    | gs hp hcap =>
      rw [g1] at hp
      cases hp
      exact .gs e1 hcap
/-- A CALL THAT ANSWERS WITH A NEW BLOCK, WHATEVER ITS PLACE AMONG THE NEW BLOCKS. -/
theorem CalE.fresh {f : FuncId} {args : AV} {h : Tr AO} {O : AV → Tr AO → Nat → Prop} {A : AO} {len : Option Nat}
    (hent : ∀ args w, (callFunc f args).run P w = .ok (.enter f args) w)
    (hc : ∀ ρ vs w, R ρ args (.l vs) → Lay 1 ρ h.get nx w → CallsIn Wd 0 P f ⟨vs⟩ w fun e w' => ∃ r h' n' v ρ', O r h' n' ∧ e = .returned v ∧ Fin' 1 ρ h.get nx w ρ' r h'.get n' v w')
    (hO : ∀ r h' n', O r h' n' → ∃ i A', r = mkF len i ∧ nx ≤ i ∧ h'.get i = some A' ∧ aoB A A' = true ∧ Le' h.get h'.get)
    (hA : bdO 0 A = true) (hh : bdT nx h = true) : CalE P 1 f args h nx (mkF len nx) (h.set nx A) (nx + 1) := fun ρ vs w hr l => by
  refine ⟨fun w' _ => hent _ _, (hc ρ vs w hr l).mono ?_⟩
  rintro e w' ⟨r, h', n', v, ρ', ho, rfl, fin⟩
  obtain ⟨i, A', rfl, hi, hget, hab, hle⟩ := hO r h' n' ho
  obtain ⟨bk, C, x0, g1, g2, g3⟩ := fin.l.obj i A' hget
  have hin : i < n' := by
    by_cases hlt : i < n'
    · exact hlt
    · have := fin.l.top i (by omega)
      rw [g1] at this; cases this
  let ρ2 : Rn := fun k => if k = nx then some (bk, C) else if k < nx then ρ' k else none
  have e1 : ρ2 nx = some (bk, C) := if_pos rfl
  have e2 : ∀ k, k < nx → ρ2 k = ρ' k := fun k hk => by show (if k = nx then _ else _) = _; rw [if_neg (by omega), if_pos hk]
  have e3 : ∀ k, nx < k → ρ2 k = none := fun k hk => by show (if k = nx then _ else _) = _; rw [if_neg (by omega), if_neg (by omega)]
  have hsm : ∀ k o, h.get k = some o → k < nx := fun k o e => by
    by_cases hk : k < nx
    · exact hk
    · obtain ⟨bk', C', _, a1, _⟩ := l.obj k o e
      rw [l.top k (by omega)] at a1; cases a1
  have hrst : (rst ρ' nx).le ρ2 := fun k q hq => by
    unfold rst at hq
    split at hq
    · rename_i hk
      rw [e2 k hk]; exact hq
    · cases hq
  have hrst0 : (rst ρ' 0).le ρ2 := fun k q hq => by
    unfold rst at hq
    rw [if_neg (by omega)] at hq
    cases hq
  have hget2 : ∀ k, (h.set nx A).get k = if k = nx then some A else h.get k := fun k => Tr.get_set h nx A k
  refine ⟨v, ρ2, rfl, ?_, ⟨fun k o e => ?_, fun k j o o' b C1 C2 ek ej rk rj => ?_, fun k hk => e3 k (by omega), fun g hg => ?_⟩, fun k q hq => ?_, fin.n.kp, fun b hb hI => ?_, fun k hk => (e2 k hk).trans (fin.n.fr k hk), Nat.le_succ _⟩
  · exact mkF_ok g1 e1 fin.r
  · rw [hget2] at e
    split at e
    · rename_i hk
      cases e
      subst hk
      exact ⟨bk, C, x0, e1, g2, (aoB_ok hab g3).bd hA hrst0⟩
    · have hk := hsm k o e
      obtain ⟨o', h1, h2⟩ := hle k o e
      obtain ⟨b, D, x, a1, a2, a3⟩ := fin.l.obj k o' h1
      obtain ⟨_, _, hbd⟩ := Tr.subB_ok h h hh k o e
      exact ⟨b, D, x, (e2 k hk).trans a1, a2, (h2 _ _ _ a3).bd hbd hrst⟩
  · rw [hget2] at ek ej
    split at ek
    · rename_i hk
      split at ej
      · rename_i hj
        rw [hk, hj]
      · have hj := hsm j o' ej
        obtain ⟨q, h1, _⟩ := hle j o' ej
        rw [hk, e1] at rk
        cases rk
        rw [e2 j hj] at rj
        have := fin.l.inj i j A' q bk C C2 hget h1 g1 rj
        omega
    · have hk := hsm k o ek
      obtain ⟨q, h1, _⟩ := hle k o ek
      split at ej
      · rename_i hj
        rw [hj, e1] at rj
        cases rj
        rw [e2 k hk] at rk
        have := fin.l.inj i k A' q bk C C1 hget h1 g1 rk
        omega
      · have hj := hsm j o' ej
        obtain ⟨q', h1', _⟩ := hle j o' ej
        rw [e2 k hk] at rk
        rw [e2 j hj] at rj
        exact fin.l.inj k j q q' b C1 C2 h1 h1' rk rj
  · have hg0 : g < nx := by
      by_cases hlt : g < nx
      · exact hlt
      · have := l.top g (by omega)
        rw [l.glb g hg] at this; cases this
    rw [e2 g hg0]
    exact fin.l.glb g hg
  · have hk : k < nx := by
      by_cases hlt : k < nx
      · exact hlt
      · rw [l.top k (by omega)] at hq; cases hq
    rw [e2 k hk]
    exact fin.n.le k q hq
  · obtain ⟨k, o, D, h1, h2⟩ := hI
    rw [hget2] at h1
    split at h1
    · rename_i hk
      rw [hk, e1] at h2
      cases h2
      exact fin.n.im _ hb ⟨i, A', _, hget, g1⟩
    · have hk := hsm k o h1
      obtain ⟨q, h3, _⟩ := hle k o h1
      rw [e2 k hk] at h2
      exact fin.n.im b hb ⟨k, q, D, h3, h2⟩
end
#print axioms call_pieces
#print axioms CalE.fresh
end Go.Proofs.YthlphddehdjfjaaGreatDoor
