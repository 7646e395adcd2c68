/- A reading of closed calls that the kernel can run: known calls from a part of the table. -/
import Derived.Test.YthlphddehdjfjaaGreatDoorEwZ
namespace Go.Proofs.YthlphddehdjfjaaGreatDoor
open Go.RowKit
set_option linter.unusedVariables false
set_option linter.unusedSimpArgs false

/-! ## tables side by side -/
noncomputable def Tr.mrg {α : Type} (a : Tr α) : Tr α → Tr α :=
  Tr.rec (motive := fun _ => Tr α → Tr α) (fun b => b) (fun l r v il ir b => Tr.rec (motive := fun _ => Tr α) (.n l r v) (fun l2 r2 v2 _ _ => .n (il l2) (ir r2) (Option.rec (motive := fun _ => Option α) v (fun x => some x) v2)) b) a
theorem Tr.get_mrg {α : Type} (a : Tr α) : ∀ (b : Tr α) (k : Nat), (a.mrg b).get k = match b.get k with | some x => some x | none => a.get k := by
  induction a with
  | e => intro b k; show b.get k = _; rw [Tr.get_e]; cases b.get k <;> rfl
  | n l r v il ir =>
    intro b k
    cases b with
    | e => rfl
    | n l2 r2 v2 =>
      cases k with
      | zero => show Option.rec (motive := fun _ => Option α) v (fun x => some x) v2 = _; cases v2 <;> rfl
      | succ m =>
        show (Tr.n (l.mrg l2) (r.mrg r2) _).get (m + 1) = _
        cases e : ev m
        · rw [Tr.get_r _ _ _ e, Tr.get_r _ _ _ e, Tr.get_r _ _ _ e]; exact ir r2 (m / 2)
        · rw [Tr.get_l _ _ _ e, Tr.get_l _ _ _ e, Tr.get_l _ _ _ e]; exact il l2 (m / 2)
/-- all that the first holds is in the second, and is the same by a test -/
noncomputable def Tr.subB {α : Type} (f : α → α → Bool) (a : Tr α) : Tr α → Bool :=
  Tr.rec (motive := fun _ => Tr α → Bool) (fun _ => true)
    (fun _ _ v il ir b => Tr.rec (motive := fun _ => Bool) false (fun l2 r2 v2 _ _ => Bool.and (Bool.and (il l2) (ir r2)) (Option.rec (motive := fun _ => Bool) true (fun x => Option.rec (motive := fun _ => Bool) false (fun y => f x y) v2) v)) b) a
theorem Tr.subB_ok {α : Type} {f : α → α → Bool} (a : Tr α) : ∀ (b : Tr α), a.subB f b = true → ∀ k x, a.get k = some x → ∃ y, b.get k = some y ∧ f x y = true := by
  induction a with
  | e => intro b h k x e; rw [Tr.get_e] at e; cases e
  | n l r v il ir =>
    intro b h k x e
    cases b with
    | e => cases h
    | n l2 r2 v2 =>
      replace h : Bool.and (Bool.and (l.subB f l2) (r.subB f r2)) (Option.rec (motive := fun _ => Bool) true (fun x => Option.rec (motive := fun _ => Bool) false (fun y => f x y) v2) v) = true := h
      obtain ⟨h12, h3⟩ := (Bool.and_eq_true _ _).mp h
      obtain ⟨h1, h2⟩ := (Bool.and_eq_true _ _).mp h12
      cases k with
      | zero =>
        rw [Tr.get_0] at e
        subst e
        cases v2 with
        | none => cases h3
        | some y => exact ⟨y, rfl, h3⟩
      | succ m =>
        cases em : ev m
        · rw [Tr.get_r _ _ _ em] at e ⊢; exact ir r2 h2 (m / 2) x e
        · rw [Tr.get_l _ _ _ em] at e ⊢; exact il l2 h1 (m / 2) x e
/-- values that are the same, by a quick test -/
noncomputable def intB (n m : Int) : Bool := Int.rec (motive := fun _ => Bool) (fun a => Int.rec (motive := fun _ => Bool) (fun b => Nat.beq a b) (fun _ => false) m) (fun a => Int.rec (motive := fun _ => Bool) (fun _ => false) (fun b => Nat.beq a b) m) n
theorem intB_ok {n m : Int} (h : intB n m = true) : n = m := by
  cases n <;> cases m <;> first
    | (cases h; done)
    | (have := Nat.eq_of_beq_eq_true h; rw [this])
theorem kN_inj {k k' : IntKind} (h : kN k = kN k') : k = k' := by cases k <;> cases k' <;> first | rfl | cases h
noncomputable def AV.eqb (a c : AV) : Bool := AV.rec (motive := fun _ => AV → Bool)
  (fun c => match c with | .any => true | _ => false)
  (fun x c => match c with | .b y => Bool.rec (motive := fun _ => Bool) (not y) y x | _ => false)
  (fun k n c => match c with | .i k' n' => Bool.and (intB n n') (Nat.beq (kN k) (kN k')) | _ => false)
  (fun x c => decide (AV.s x = c))
  (fun i o c => match c with | .p i' o' => Bool.and (Nat.beq i i') (Nat.beq o o') | _ => false)
  (fun c => match c with | .np => true | _ => false)
  (fun i o l q c => match c with | .sl i' o' l' q' => Bool.and (Bool.and (Nat.beq i i') (Nat.beq o o')) (Bool.and (Nat.beq l l') (Nat.beq q q')) | _ => false)
  (fun i l c => match c with | .gs i' l' => Bool.and (Nat.beq i i') (Nat.beq l l') | _ => false)
  (fun c => match c with | .ns => true | _ => false)
  (fun i c => match c with | .m i' => Nat.beq i i' | _ => false)
  (fun c => match c with | .nm => true | _ => false)
  (fun f l _ c => decide (AV.f f l = c))
  (fun i c => decide (AV.fy i = c))
  (fun c => match c with | .nf => true | _ => false)
  (fun t v ih c => match c with | .x t' v' => Bool.and (Nat.beq t t') (ih v') | _ => false)
  (fun c => match c with | .nx => true | _ => false)
  (fun l ih c => match c with | .a l' => ih l' | _ => false)
  (fun l ih c => match c with | .t l' => ih l' | _ => false)
  (fun c => match c with | .nil => true | _ => false)
  (fun _ _ ih it c => match c with | .cons h' t' => Bool.and (ih h') (it t') | _ => false)
  (fun k m r c => decide (AV.md k m r = c))
  (fun f l k _ _ c => decide (AV.fb f l k = c)) a c
theorem AV.eqb_ok {a : AV} : ∀ {c : AV}, a.eqb c = true → a = c := by
  induction a with
  | any => intro c h; cases c <;> first | rfl | cases h
  | b x => intro c h; cases c <;> first | (cases h; done) | (rename_i y; cases x <;> cases y <;> first | rfl | cases h)
  | i k n =>
    intro c h
    cases c <;> first | (cases h; done) | skip
    rename_i k' n'
    obtain ⟨h1, h2⟩ := (Bool.and_eq_true _ _).mp (show Bool.and (intB n n') (Nat.beq (kN k) (kN k')) = true from h)
    rw [intB_ok h1, kN_inj (Nat.eq_of_beq_eq_true h2)]
  | s x => intro c h; exact of_decide_eq_true h
  | p i o =>
    intro c h
    cases c <;> first | (cases h; done) | skip
    rename_i i' o'
    obtain ⟨h1, h2⟩ := (Bool.and_eq_true _ _).mp (show Bool.and (Nat.beq i i') (Nat.beq o o') = true from h)
    rw [Nat.eq_of_beq_eq_true h1, Nat.eq_of_beq_eq_true h2]
  | np => intro c h; cases c <;> first | rfl | cases h
  | sl i o l q =>
    intro c h
    cases c <;> first | (cases h; done) | skip
    rename_i i' o' l' q'
    obtain ⟨h1, h2⟩ := (Bool.and_eq_true _ _).mp (show Bool.and (Bool.and (Nat.beq i i') (Nat.beq o o')) (Bool.and (Nat.beq l l') (Nat.beq q q')) = true from h)
    obtain ⟨h3, h4⟩ := (Bool.and_eq_true _ _).mp h1
    obtain ⟨h5, h6⟩ := (Bool.and_eq_true _ _).mp h2
    rw [Nat.eq_of_beq_eq_true h3, Nat.eq_of_beq_eq_true h4, Nat.eq_of_beq_eq_true h5, Nat.eq_of_beq_eq_true h6]
  | gs i l =>
    intro c h
    cases c <;> first | (cases h; done) | skip
    rename_i i' l'
    obtain ⟨h1, h2⟩ := (Bool.and_eq_true _ _).mp (show Bool.and (Nat.beq i i') (Nat.beq l l') = true from h)
    rw [Nat.eq_of_beq_eq_true h1, Nat.eq_of_beq_eq_true h2]
  | ns => intro c h; cases c <;> first | rfl | cases h
  | m i =>
    intro c h
    cases c <;> first | (cases h; done) | skip
    rename_i i'
    rw [Nat.eq_of_beq_eq_true (show Nat.beq i i' = true from h)]
  | nm => intro c h; cases c <;> first | rfl | cases h
  | f f l _ => intro c h; exact of_decide_eq_true h
  | fy i => intro c h; exact of_decide_eq_true h
  | nf => intro c h; cases c <;> first | rfl | cases h
  | x t v ih =>
    intro c h
    cases c <;> first | (cases h; done) | skip
    rename_i t' v'
    obtain ⟨h1, h2⟩ := (Bool.and_eq_true _ _).mp (show Bool.and (Nat.beq t t') (v.eqb v') = true from h)
    rw [Nat.eq_of_beq_eq_true h1, ih h2]
  | nx => intro c h; cases c <;> first | rfl | cases h
  | a l ih => intro c h; cases c <;> first | (cases h; done) | (rename_i l'; rw [ih (show l.eqb l' = true from h)])
  | t l ih => intro c h; cases c <;> first | (cases h; done) | (rename_i l'; rw [ih (show l.eqb l' = true from h)])
  | nil => intro c h; cases c <;> first | rfl | cases h
  | cons a b ia ib =>
    intro c h
    cases c <;> first | (cases h; done) | skip
    rename_i a' b'
    obtain ⟨h1, h2⟩ := (Bool.and_eq_true _ _).mp (show Bool.and (a.eqb a') (b.eqb b') = true from h)
    rw [ia h1, ib h2]
  | md k m r => intro c h; exact of_decide_eq_true h
  | fb f l k _ _ => intro c h; exact of_decide_eq_true h
/-- blocks that are the same -/
noncomputable def meB (l : List ME) : List ME → Bool := List.rec (motive := fun _ => List ME → Bool) (fun k => List.rec (motive := fun _ => Bool) true (fun _ _ _ => false) k)
  (fun x _ ih k => List.rec (motive := fun _ => Bool) false (fun y k' _ => Bool.and (Bool.and (x.k.eqb y.k) (x.v.eqb y.v)) (Bool.and (Nat.beq x.b y.b) (ih k'))) k) l
theorem meB_ok : ∀ {l k : List ME}, meB l k = true → l = k
  | [], [], _ => rfl
  | [], _ :: _, h => by cases h
  | _ :: _, [], h => by cases h
  | x :: l, y :: k, h => by
    replace h : Bool.and (Bool.and (x.k.eqb y.k) (x.v.eqb y.v)) (Bool.and (Nat.beq x.b y.b) (meB l k)) = true := h
    obtain ⟨h1, h2⟩ := (Bool.and_eq_true _ _).mp h
    obtain ⟨h3, h4⟩ := (Bool.and_eq_true _ _).mp h1
    obtain ⟨h5, h6⟩ := (Bool.and_eq_true _ _).mp h2
    have e1 := AV.eqb_ok h3
    have e2 := AV.eqb_ok h4
    have e3 := Nat.eq_of_beq_eq_true h5
    have e4 := meB_ok h6
    obtain ⟨xk, xv, xb⟩ := x
    obtain ⟨yk, yv, yb⟩ := y
    simp only at e1 e2 e3
    subst e1 e2 e3 e4
    rfl
noncomputable def aoB (x y : AO) : Bool := match x, y with
  | .c n t u, .c n' t' u' => Bool.and (Nat.beq n n') (Bool.and (Nat.beq t t') (u.subB AV.eqb u'))
  | .gr n t u, .gr n' t' u' => Bool.and (Nat.beq n n') (Bool.and (Nat.beq t t') (u.subB AV.eqb u'))
  | .mp es c, .mp es' c' => Bool.and (meB es es') (Nat.beq c c')
  | _, _ => false
/-- what is the same by the test stands for the same -/
theorem sub_CR {ρ : Rn} {u u' : Tr AV} {cs : Array Value} (h : u.subB AV.eqb u' = true) (hc : CR ρ u' cs) : CR ρ u cs := fun j c e => by
  obtain ⟨y, h1, h2⟩ := Tr.subB_ok u u' h j c e
  have := AV.eqb_ok h2
  subst this
  exact hc j c h1
theorem aoB_ok {ρ : Rn} {C : Nat} {x y : AO} {o : Obj} (h : aoB x y = true) (ho : OR ρ C y o) : OR ρ C x o := by
  unfold aoB at h
  split at h
  · obtain ⟨h1, h3⟩ := (Bool.and_eq_true _ _).mp h
    obtain ⟨h2, h4⟩ := (Bool.and_eq_true _ _).mp h3
    have e1 := Nat.eq_of_beq_eq_true h1
    have e2 := Nat.eq_of_beq_eq_true h2
    subst e1 e2
    cases ho with
    | c hs hc => exact .c hs (sub_CR h4 hc)
  · obtain ⟨h1, h3⟩ := (Bool.and_eq_true _ _).mp h
    obtain ⟨h2, h4⟩ := (Bool.and_eq_true _ _).mp h3
    have e1 := Nat.eq_of_beq_eq_true h1
    have e2 := Nat.eq_of_beq_eq_true h2
    subst e1 e2
    cases ho with
    | gr hs hc => exact .gr hs (sub_CR h4 hc)
  · obtain ⟨h1, h2⟩ := (Bool.and_eq_true _ _).mp h
    have e1 := meB_ok h1
    have e2 := Nat.eq_of_beq_eq_true h2
    subst e1 e2
    exact ho
  · cases h
/-- one table says no more than another -/
def Le' (h0 h : Hp') : Prop := ∀ i o, h0 i = some o → ∃ o', h i = some o' ∧ ∀ ρ C x, OR ρ C o' x → OR ρ C o x
noncomputable def subT (a b : Tr AO) : Bool := a.subB aoB b
theorem subT_ok {a b : Tr AO} (h : subT a b = true) : Le' a.get b.get := fun i o e => by
  obtain ⟨y, h1, h2⟩ := Tr.subB_ok a b h i o e
  exact ⟨y, h1, fun ρ C x hx => aoB_ok h2 hx⟩
section
variable {P : Program} {G nx nx' : Nat} {ρ ρ' : Rn} {w w' : World}
theorem Lay.less {h0 h : Hp'} (l : Lay G ρ h nx w) (hs : Le' h0 h) : Lay G ρ h0 nx w :=
  ⟨fun i o e => by
    obtain ⟨o', h1, h2⟩ := hs i o e
    obtain ⟨bk, C, x, a1, a2, a3⟩ := l.obj i o' h1
    exact ⟨bk, C, x, a1, a2, h2 _ _ _ a3⟩, fun i j o o' bk C C' e e' => by
    obtain ⟨p, h1, _⟩ := hs i o e
    obtain ⟨q, h2, _⟩ := hs j o' e'
    exact l.inj i j p q bk C C' h1 h2, l.top, l.glb⟩
theorem Im.less {h0 h : Hp'} (hs : Le' h0 h) {b : Nat} (e : Im ρ h0 b) : Im ρ h b := by
  obtain ⟨i, o, C, h1, h2⟩ := e
  obtain ⟨o', h3, _⟩ := hs i o h1
  exact ⟨i, o', C, h3, h2⟩
theorem Nx.less {h0 h : Hp'} (hs : Le' h0 h) : Nx ρ h nx w ρ h0 nx w := ⟨Rn.le.refl _, Keeps.refl _ _, fun b _ e => e.less hs, fun _ _ => rfl, Nat.le_refl _⟩
/-- a call's outcome said with less -/
theorem CalE.weak {f : FuncId} {args r : AV} {h h1 h2 : Tr AO} (c : CalE P G f args h nx r h1 nx') (hs : Le' h2.get h1.get) : CalE P G f args h nx r h2 nx' := fun ρ vs w hr l => by
  obtain ⟨c1, c2⟩ := c ρ vs w hr l
  refine ⟨c1, c2.mono ?_⟩
  rintro e w' ⟨v, ρ', rfl, fin⟩
  exact ⟨v, ρ', rfl, fin.r, fin.l.less hs, fin.n.trans (.less hs)⟩
/-- A CALL READ FROM A PART OF THE TABLE LEAVES THE REST ALONE. -/
theorem CalE.frame {f : FuncId} {args r : AV} {h0 h h1 : Tr AO} (c : CalE P G f args h0 nx r h1 nx') (hs : Le' h0.get h.get) (hd : ∀ i o, h0.get i = some o → ∃ o', h1.get i = some o') : CalE P G f args h nx r (h.mrg h1) nx' := fun ρ vs w hr l => by
  obtain ⟨c1, c2⟩ := c ρ vs w hr (l.less hs)
  refine ⟨fun w' l' => c1 w' (l'.less hs), c2.mono ?_⟩
  rintro e w' ⟨v, ρ', rfl, fin⟩
  have hcase : ∀ i o, (h.mrg h1).get i = some o → h1.get i = some o ∨ (h1.get i = none ∧ h0.get i = none ∧ h.get i = some o) := fun i o e => by
    rw [Tr.get_mrg] at e
    cases e1 : h1.get i with
    | some x => rw [e1] at e; exact .inl e
    | none =>
      rw [e1] at e
      refine .inr ⟨rfl, ?_, e⟩
      cases e0 : h0.get i with
      | none => rfl
      | some x =>
        obtain ⟨o', e2⟩ := hd i x e0
        rw [e1] at e2; cases e2
  -- a block of the rest is not among those of the call
  have hno : ∀ i o bk C, h.get i = some o → h0.get i = none → ρ i = some (bk, C) → ¬ Im ρ h0.get bk := fun i o bk C e1 e0 er ⟨j, q, D, g1, g2⟩ => by
    obtain ⟨q', g3, _⟩ := hs j q g1
    have := l.inj i j o q' bk C D e1 g3 er g2
    subst this
    rw [e0] at g1; cases g1
  have hmix : ∀ i j o o' bk C C', h1.get i = some o → h.get j = some o' → h0.get j = none → ρ' i = some (bk, C) → ρ j = some (bk, C') → False := fun i j o o' bk C C' e1 e2 e0 r1 r2 => by
    have hlt := l.lt e2 r2
    exact hno j o' bk C' e2 e0 r2 (fin.n.im bk hlt ⟨i, o, C, e1, r1⟩)
  refine ⟨v, ρ', rfl, fin.r, ⟨fun i o e => ?_, fun i j o o' bk C C' e e' r1 r2 => ?_, fin.l.top, fin.l.glb⟩, fin.n.le, fin.n.kp.mono fun b _ hb => hb.less hs, fun b hb ⟨i, o, C, e, er⟩ => ?_, fin.n.fr, fin.n.mx⟩
  · rcases hcase i o e with e | ⟨e1, e0, e⟩
    · exact fin.l.obj i o e
    · obtain ⟨bk, C, x, a1, a2, a3⟩ := l.obj i o e
      exact ⟨bk, C, x, fin.n.le _ _ a1, block_keep a2 fin.n.kp (hno i o bk C e e0 a1), a3.mono fin.n.le⟩
  · rcases hcase i o e with e | ⟨e1, e0, e⟩ <;> rcases hcase j o' e' with e' | ⟨e1', e0', e'⟩
    · exact fin.l.inj i j o o' bk C C' e e' r1 r2
    · obtain ⟨bk2, D, x, a1, a2, a3⟩ := l.obj j o' e'
      have := fin.n.le _ _ a1
      rw [r2] at this; cases this
      exact (hmix i j o o' bk C C' e e' e0' r1 a1).elim
    · obtain ⟨bk2, D, x, a1, a2, a3⟩ := l.obj i o e
      have := fin.n.le _ _ a1
      rw [r1] at this; cases this
      exact (hmix j i o' o bk C' C e' e e0 r2 a1).elim
    · obtain ⟨bk2, D, x, a1, a2, a3⟩ := l.obj j o' e'
      obtain ⟨bk3, D3, x3, b1, b2, b3⟩ := l.obj i o e
      have k1 := fin.n.le _ _ a1
      have k2 := fin.n.le _ _ b1
      rw [r2] at k1; cases k1
      rw [r1] at k2; cases k2
      exact l.inj i j o o' bk C C' e e' b1 a1
  · rcases hcase i o e with e | ⟨e1, e0, e⟩
    · exact Im.less hs (fin.n.im b hb ⟨i, o, C, e, er⟩)
    · obtain ⟨bk2, D, x, a1, a2, a3⟩ := l.obj i o e
      have := fin.n.le _ _ a1
      rw [er] at this; cases this
      exact ⟨i, o, C, e, a1⟩
end
/-! ## literal readings -/
/-- a reading gives what is written down (of the table: at least) -/
noncomputable def rdB (r : AV) (h : Tr AO) (nx : Nat) (x : Option (AV × Tr AO × Nat)) : Bool := Option.rec (motive := fun _ => Bool) false (fun q => Bool.and (r.eqb q.1) (Bool.and (Nat.beq nx q.2.2) (subT h q.2.1))) x
theorem rdB_ok {r : AV} {h : Tr AO} {nx : Nat} {x : Option (AV × Tr AO × Nat)} (e : rdB r h nx x = true) : ∃ h', x = some (r, h', nx) ∧ Le' h.get h'.get := by
  cases x with
  | none => cases e
  | some q =>
    obtain ⟨r', h', nx'⟩ := q
    replace e : Bool.and (r.eqb r') (Bool.and (Nat.beq nx nx') (subT h h')) = true := e
    obtain ⟨e1, e2⟩ := (Bool.and_eq_true _ _).mp e
    obtain ⟨e3, e4⟩ := (Bool.and_eq_true _ _).mp e2
    have := AV.eqb_ok e1
    have := Nat.eq_of_beq_eq_true e3
    subst r' nx'
    exact ⟨h', rfl, subT_ok e4⟩
theorem calE_read {P : Program} {kp : Tr Nat} {mc : FuncId} {kn : Kn} {n : Nat} {f : FuncId} {a r : AV} {h h1 : Tr AO} {nx nx' : Nat} (hm : P.follows .mixedOrders = true) (hkn : KnOk P 1 kn) (hcl : CloneOk P mc) (hf : Nat.beq f mc = false)
    (e : rdB r h1 nx' (evF P 1 kp mc kn n f a h nx) = true) : CalE P 1 f a h nx r h1 nx' := by
  obtain ⟨h', e1, e2⟩ := rdB_ok e
  exact (evF_ok (drawn_ok hm) hkn hcl hf e1).weak e2
/-- a call that is known from a part of the table -/
noncomputable def knL (f0 : FuncId) (a0 : AV) (h0 : Tr AO) (n0 : Nat) (r : AV) (h1 : Tr AO) (n1 : Nat) : Kn := fun f args h nx =>
  Bool.rec (motive := fun _ => Option (AV × Tr AO × Nat)) none (iff' (Nat.beq n0 nx) (iff' (a0.eqb args) (iff' (subT h0 h) (iff' (h0.subB (fun _ _ => true) h1) (some (r, h.mrg h1, n1)))))) (Nat.beq f0 f)
theorem knL_ok {P : Program} {f0 : FuncId} {a0 r0 : AV} {h0 h1 : Tr AO} {n0 n1 : Nat} (c : CalE P 1 f0 a0 h0 n0 r0 h1 n1) : KnOk P 1 (knL f0 a0 h0 n0 r0 h1 n1) := fun f args h nx r h' nx' e => by
  unfold knL at e
  cases hb : Nat.beq f0 f with
  | false => rw [hb] at e; cases e
  | true =>
    rw [hb] at e
    obtain ⟨k1, e⟩ := iff_eq e
    obtain ⟨k2, e⟩ := iff_eq e
    obtain ⟨k3, e⟩ := iff_eq e
    obtain ⟨k4, e⟩ := iff_eq e
    cases e
    have := Nat.eq_of_beq_eq_true hb
    have := Nat.eq_of_beq_eq_true k1
    have := AV.eqb_ok k2
    subst f0 n0 a0
    exact c.frame (subT_ok k3) fun i o e => let ⟨y, h1, _⟩ := Tr.subB_ok h0 h1 k4 i o e; ⟨y, h1⟩
/-- one of two known calls -/
noncomputable def knOr (k1 k2 : Kn) : Kn := fun f args h nx => Option.rec (motive := fun _ => Option (AV × Tr AO × Nat)) (k2 f args h nx) (fun r => some r) (k1 f args h nx)
theorem knOr_ok {P : Program} {k1 k2 : Kn} (h1 : KnOk P 1 k1) (h2 : KnOk P 1 k2) : KnOk P 1 (knOr k1 k2) := fun f args h nx r h' nx' e => by
  unfold knOr at e
  cases hk : k1 f args h nx with
  | none => rw [hk] at e; exact h2 f args h nx r h' nx' e
  | some q => rw [hk] at e; cases e; exact h1 f args h nx r h' nx' hk
/-- a closed call that is true -/
noncomputable def knT (f0 : FuncId) : Kn := fun f args h nx => Bool.rec (motive := fun _ => Option (AV × Tr AO × Nat)) none (Nat.rec (motive := fun _ => Option (AV × Tr AO × Nat)) (some (.b true, h, nx)) (fun _ _ => none) (AV.lng args)) (Nat.beq f0 f)
theorem knT_ok {P : Program} {f0 : FuncId} (hent : ∃ fn c, entA P f0 = some (fn, c)) (hw : ∀ w : World, CallsIn Wd 0 P f0 #[] w fun e w' => e = .returned (.bool true) ∧ Keeps (fun _ => False) w w') : KnOk P 1 (knT f0) := fun f args h nx r h' nx' e => by
  unfold knT at e
  cases hb : Nat.beq f0 f with
  | false => rw [hb] at e; cases e
  | true =>
    rw [hb] at e
    have := Nat.eq_of_beq_eq_true hb
    subst this
    replace e : Nat.rec (motive := fun _ => Option (AV × Tr AO × Nat)) (some (.b true, h, nx)) (fun _ _ => none) args.lng = some (r, h', nx') := e
    intro ρ vs w hr l
    have hl := hr.lng
    cases hn : args.lng with
    | succ n => rw [hn] at e; cases e
    | zero =>
      rw [hn] at e hl
      cases e
      obtain rfl : vs = [] := List.length_eq_zero_iff.1 hl
      obtain ⟨fn, c, hent⟩ := hent
      refine ⟨fun w' _ => (entA_eq hent).2.2 _ _, (hw w).mono ?_⟩
      rintro e w' ⟨rfl, hk⟩
      exact ⟨_, ρ, rfl, .b true, l.same hk, .same hk⟩
#print axioms knL_ok
end Go.Proofs.YthlphddehdjfjaaGreatDoor
