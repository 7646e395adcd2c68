/- A reading of closed calls that the kernel can run: operations that look at no block. -/
import Derived.Test.YthlphddehdjfjaaGreatDoorEwB
namespace Go.Proofs.YthlphddehdjfjaaGreatDoor
open Go.RowKit
set_option linter.unusedVariables false
set_option linter.unusedSimpArgs false

/-! ## a run that asks nothing of a world -/
noncomputable def runS {α : Type} (P : Program) (s : Sem α) : Option α :=
  Sem.rec (motive := fun _ => Option α) (fun a => some a) (fun _ _ _ _ => none) (fun _ _ _ _ _ => none) (fun _ _ _ => none) (fun _ _ _ => none) (fun _ _ _ _ => none) (fun _ _ _ => none)
    (fun _ _ _ => none) (fun _ _ _ _ => none) (fun _ _ _ => none) (fun _ _ _ => none) (fun _ ih => ih P) (fun _ _ ih => ih) (fun _ => none) s
theorem runS_ok {α : Type} {P : Program} {s : Sem α} {x : α} (h : runS P s = some x) (w : World) : s.run P w = .ok x w := by
  induction s with
  | pure y => cases h; rfl
  | program k ih => exact ih P h
  | mark m k ih => exact ih h
  | _ => cases h

/-! ## values without blocks -/
def toS : AV → Option Value
  | .b x => some (.bool x)
  | .i k n => some (.int k n)
  | .s x => some (.string x)
  | .np => some (.pointer none)
  | .ns => some (.slice none 0 0)
  | .nm => some (.map none)
  | .nf => some .nilFunc
  | .nx => some .nilIface
  | _ => none
theorem toS_ok {ρ : Rn} {c : AV} {v u : Value} (h : toS c = some v) (r : R ρ c (.v u)) : u = v := by
  cases r <;> simp [toS] at h <;> exact h
noncomputable def toL (l : AV) : Option (List Value) :=
  AV.rec (motive := fun _ => Option (List Value)) none (fun _ => none) (fun _ _ => none) (fun _ => none) (fun _ _ => none) none (fun _ _ _ _ => none) (fun _ _ => none) none (fun _ => none)
    none (fun _ _ _ => none) (fun _ => none) none (fun _ _ _ => none) none (fun _ _ => none) (fun _ _ => none) (some [])
    (fun h _ _ it => ob (toS h) fun v => ob it fun vs => some (v :: vs)) (fun _ _ _ => none) (fun _ _ _ _ _ => none) l
theorem toL_ok {ρ : Rn} {l : AV} {vs us : List Value} (h : toL l = some vs) (r : R ρ l (.l us)) : us = vs := by
  induction l generalizing vs us with
  | nil => cases h; cases r; rfl
  | cons c t _ ih =>
    obtain ⟨v, h1, h⟩ := ob_eq h
    obtain ⟨ws, h2, h⟩ := ob_eq h
    cases h
    cases r with
    | cons r1 r2 => rw [toS_ok h1 r1, ih h2 r2]
  | _ => cases r
noncomputable def toV (c : AV) : Option Value :=
  match c with
  | .a l => ob (toL l) fun vs => some (.agg ⟨vs⟩)
  | c => toS c
theorem toV_ok {ρ : Rn} {c : AV} {v u : Value} (h : toV c = some v) (r : R ρ c (.v u)) : u = v := by
  unfold toV at h
  split at h
  · obtain ⟨vs, h1, h⟩ := ob_eq h
    cases h
    cases r with
    | a r => rw [toL_ok h1 r]
  · exact toS_ok h r

/-! ## numbers -/
noncomputable def ltI (x y : Int) : Bool :=
  match x, y with
  | .ofNat m, .ofNat n => Nat.blt m n
  | .negSucc _, .ofNat _ => true
  | .ofNat _, .negSucc _ => false
  | .negSucc m, .negSucc n => Nat.blt n m
theorem ltI_eq (x y : Int) : ltI x y = decide (x < y) := by
  unfold ltI
  split
  · rename_i m n
    rw [Bool.eq_iff_iff]; simp [Nat.blt_eq]
  · rename_i m n
    simp; omega
  · rename_i m n
    simp; omega
  · rename_i m n
    rw [Bool.eq_iff_iff]; simp [Nat.blt_eq]; omega
noncomputable def eqI (x y : Int) : Bool :=
  match x, y with
  | .ofNat m, .ofNat n => Nat.beq m n
  | .negSucc m, .negSucc n => Nat.beq m n
  | _, _ => false
theorem eqI_eq (x y : Int) : eqI x y = (x == y) := by
  unfold eqI
  split
  · rename_i m n
    rw [Bool.eq_iff_iff]; simp; omega
  · rename_i m n
    rw [Bool.eq_iff_iff]; simp
  · rename_i h1 h2
    symm
    cases x <;> cases y
    · exact absurd rfl (h1 _ _ rfl)
    · simp
    · simp
    · exact absurd rfl (h2 _ _ rfl)
noncomputable def inK (k : IntKind) (n : Int) : Bool :=
  match k, n with
  | .i64, .ofNat m => Nat.blt m 9223372036854775808
  | .i64, .negSucc m => Nat.blt m 9223372036854775808
  | .i32, .ofNat m => Nat.blt m 2147483648
  | .u8, .ofNat m => Nat.blt m 256
  | .u16, .ofNat m => Nat.blt m 65536
  | .u32, .ofNat m => Nat.blt m 4294967296
  | .u64, .ofNat m => Nat.blt m 18446744073709551616
  | _, _ => false
theorem inK_ok {k : IntKind} {n : Int} (h : inK k n = true) : k.wrap n = n := by
  have w1 : ∀ n : Int, -9223372036854775808 ≤ n → n < 9223372036854775808 → IntKind.i64.wrap n = n := fun n a b => by unfold IntKind.wrap; simp only [show IntKind.i64.bits = 64 from rfl, show IntKind.i64.signed = true from rfl]; simp; omega
  have w2 : ∀ n : Int, 0 ≤ n → n < 2147483648 → IntKind.i32.wrap n = n := fun n a b => by unfold IntKind.wrap; simp only [show IntKind.i32.bits = 32 from rfl, show IntKind.i32.signed = true from rfl]; simp; omega
  have w3 : ∀ n : Int, 0 ≤ n → n < 256 → IntKind.u8.wrap n = n := fun n a b => by unfold IntKind.wrap; simp only [show IntKind.u8.bits = 8 from rfl, show IntKind.u8.signed = false from rfl]; simp; omega
  have w4 : ∀ n : Int, 0 ≤ n → n < 65536 → IntKind.u16.wrap n = n := fun n a b => by unfold IntKind.wrap; simp only [show IntKind.u16.bits = 16 from rfl, show IntKind.u16.signed = false from rfl]; simp; omega
  have w5 : ∀ n : Int, 0 ≤ n → n < 4294967296 → IntKind.u32.wrap n = n := fun n a b => by unfold IntKind.wrap; simp only [show IntKind.u32.bits = 32 from rfl, show IntKind.u32.signed = false from rfl]; simp; omega
  have w6 : ∀ n : Int, 0 ≤ n → n < 18446744073709551616 → IntKind.u64.wrap n = n := fun n a b => by unfold IntKind.wrap; simp only [show IntKind.u64.bits = 64 from rfl, show IntKind.u64.signed = false from rfl]; simp; omega
  unfold inK at h
  split at h
  · rw [Nat.blt_eq] at h; exact w1 _ (Int.le_trans (by decide) (Int.natCast_nonneg _)) (by rw [Int.ofNat_eq_natCast]; omega)
  · rw [Nat.blt_eq] at h; exact w1 _ (by omega) (by omega)
  · rw [Nat.blt_eq] at h; exact w2 _ (Int.le_trans (by decide) (Int.natCast_nonneg _)) (by rw [Int.ofNat_eq_natCast]; omega)
  · rw [Nat.blt_eq] at h; exact w3 _ (Int.le_trans (by decide) (Int.natCast_nonneg _)) (by rw [Int.ofNat_eq_natCast]; omega)
  · rw [Nat.blt_eq] at h; exact w4 _ (Int.le_trans (by decide) (Int.natCast_nonneg _)) (by rw [Int.ofNat_eq_natCast]; omega)
  · rw [Nat.blt_eq] at h; exact w5 _ (Int.le_trans (by decide) (Int.natCast_nonneg _)) (by rw [Int.ofNat_eq_natCast]; omega)
  · rw [Nat.blt_eq] at h; exact w6 _ (Int.le_trans (by decide) (Int.natCast_nonneg _)) (by rw [Int.ofNat_eq_natCast]; omega)
  · cases h
/-- what an operator does with two integers of one kind -/
noncomputable def binI (op : BinOp) (k : IntKind) (x y : Int) : Option AV :=
  match op with
  | .add => fI (Int.add x y) fun z => iff' (inK k z) (some (.i k z))
  | .sub => fI (Int.sub x y) fun z => iff' (inK k z) (some (.i k z))
  | .mul => fI (Int.mul x y) fun z => iff' (inK k z) (some (.i k z))
  | .eql => fB (eqI x y) fun z => some (.b z)
  | .neq => fB (not (eqI x y)) fun z => some (.b z)
  | .lss => fB (ltI x y) fun z => some (.b z)
  | .gtr => fB (ltI y x) fun z => some (.b z)
  | .leq => fB (not (ltI y x)) fun z => some (.b z)
  | .geq => fB (not (ltI x y)) fun z => some (.b z)
  | _ => none
theorem binI_ok {op : BinOp} {k : IntKind} {x y : Int} {c : AV} (h : binI op k x y = some c) (P : Program) (t : TypeId) :
    ∃ v, toS c = some v ∧ ∀ w, (binOp op t (.int k x) (.int k y)).run P w = .ok v w := by
  have hn : ∀ b : Bool, (!b) = true ↔ ¬ b = true := by decide
  unfold binI at h
  split at h
  · rw [fI_eq] at h; obtain ⟨h1, h⟩ := iff_eq h; cases h
    exact ⟨_, rfl, fun w => by simp only [binOp_add, Op.intArith]; rw [show x + y = Int.add x y from rfl, inK_ok h1]; rfl⟩
  · rw [fI_eq] at h; obtain ⟨h1, h⟩ := iff_eq h; cases h
    exact ⟨_, rfl, fun w => by simp only [binOp_sub, Op.intArith]; rw [show x - y = Int.sub x y from rfl, inK_ok h1]; rfl⟩
  · rw [fI_eq] at h; obtain ⟨h1, h⟩ := iff_eq h; cases h
    exact ⟨_, rfl, fun w => by simp only [binOp_mul, Op.intArith]; rw [show x * y = Int.mul x y from rfl, inK_ok h1]; rfl⟩
  · rw [fB_eq] at h; cases h
    exact ⟨_, rfl, fun w => by rw [binOp_eql, eqI_eq]; rfl⟩
  · rw [fB_eq] at h; cases h
    exact ⟨_, rfl, fun w => by rw [binOp_neq, eqI_eq]; rfl⟩
  · rw [fB_eq] at h; cases h
    exact ⟨_, rfl, fun w => by rw [binOp_lss, ltI_eq]; rfl⟩
  · rw [fB_eq] at h; cases h
    exact ⟨_, rfl, fun w => by rw [binOp_gtr, ltI_eq]; rfl⟩
  · rw [fB_eq] at h; cases h
    exact ⟨_, rfl, fun w => by
      rw [binOp_leq, ltI_eq, show (!decide (y < x)) = decide (x ≤ y) by rw [Bool.eq_iff_iff]; simp]; rfl⟩
  · rw [fB_eq] at h; cases h
    exact ⟨_, rfl, fun w => by
      rw [binOp_geq, ltI_eq, show (!decide (x < y)) = decide (x ≥ y) by rw [Bool.eq_iff_iff]; simp]; rfl⟩
  · cases h

/-- the run of an operation that hands back a value -/
def Ends (P : Program) (e : Act) (o : Oper) (w : World) (v : Value) (w' : World) : Prop := (execOp e.eval o).run P w = .ok (.value v) w' ∨ (v = undef ∧ (execOp e.eval o).run P w = .ok .skip w')
def Pure' (P : Program) (e : Act) (o : Oper) (ρ : Rn) (c : AV) : Prop := ∃ v, R ρ c (.v v) ∧ ∀ w, (execOp e.eval o).run P w = .ok (.value v) w

/-! ## two operands -/
/-- against nil, and what has no blocks -/
noncomputable def binB (P : Program) (op : BinOp) (t : TypeId) (x y : Operand) (c d : AV) : Option AV :=
  ob (toV c) fun v => ob (toV d) fun u => ob (runS P (do eqGuard op t x y v u; binOp op t v u)) fun r => ofS r
noncomputable def nilB (op : BinOp) (b : Bool) : Option AV :=
  match op with
  | .eql => some (.b b)
  | .neq => some (.b (not b))
  | _ => none
noncomputable def binN (P : Program) (op : BinOp) (t : TypeId) (c d : AV) : Option AV :=
  match P.underlying t, c, d with
  | some (.pointer _), .p _ _, .np => nilB op false
  | some (.pointer _), .np, .np => nilB op true
  | some (.map _ _), .m _, .nm => nilB op false
  | some (.map _ _), .nm, .nm => nilB op true
  | some (.slice _), .sl _ _ _ _, .ns => nilB op false
  | some (.slice _), .gs _ _, .ns => nilB op false
  | some (.slice _), .ns, .ns => nilB op true
  | _, _, _ => none
theorem nilB_ok {ρ : Rn} {P : Program} {op : BinOp} {t : TypeId} {r : AV} {v u : Value} {b : Bool} (h : nilB op b = some r) (hq : ∀ w, (Op.equal t v u).run P w = .ok b w) (x y : Operand)
    (h1 : eqGuard .eql t x y v u = pure () ∧ eqGuard .neq t x y v u = pure ()) (h2 : binOp .eql t v u = (do pure (.bool (← Op.equal t v u))) ∧ binOp .neq t v u = (do pure (.bool (!(← Op.equal t v u))))) :
    ∃ z, R ρ r (.v z) ∧ ∀ w, (do eqGuard op t x y v u; binOp op t v u : Sem Value).run P w = .ok z w := by
  unfold nilB at h
  split at h
  · cases h
    exact ⟨_, .b _, fun w => by rw [h1.1, h2.1]; simp [hq]⟩
  · cases h
    exact ⟨_, .b _, fun w => by rw [h1.2, h2.2]; simp [hq]⟩
  · cases h
theorem eqP_nil {P : Program} {t el : TypeId} (hu : P.underlying t = some (.pointer el)) (p : Option Addr) (w : World) : (Op.equal t (.pointer p) (.pointer none)).run P w = .ok p.isNone w := by
  show (Op.equalIn (9999 + 1) t _ _).run P w = _
  unfold Op.equalIn
  cases p <;> simp [run_underlying hu]
theorem eqM_nil {P : Program} {t k el : TypeId} (hu : P.underlying t = some (.map k el)) (p : Option Nat) (w : World) : (Op.equal t (.map p) (.map none)).run P w = .ok p.isNone w := by
  show (Op.equalIn (9999 + 1) t _ _).run P w = _
  unfold Op.equalIn
  cases p <;> simp [run_underlying hu]
theorem eqS_nil {P : Program} {t el : TypeId} (hu : P.underlying t = some (.slice el)) (p : Option Addr) (n c : Nat) (w : World) : (Op.equal t (.slice p n c) (.slice none 0 0)).run P w = .ok p.isNone w := by
  show (Op.equalIn (9999 + 1) t _ _).run P w = _
  unfold Op.equalIn
  cases p <;> simp [run_underlying hu]
theorem binN_ok {ρ : Rn} {P : Program} {op : BinOp} {t : TypeId} {c d r : AV} {v u : Value} (h : binN P op t c d = some r) (hc : R ρ c (.v v)) (hd : R ρ d (.v u)) (x y : Operand) :
    ∃ z, R ρ r (.v z) ∧ ∀ w, (do eqGuard op t x y v u; binOp op t v u : Sem Value).run P w = .ok z w := by
  unfold binN at h
  split at h
  · rename_i hu
    cases hc; cases hd
    exact nilB_ok h (eqP_nil hu _) x y ⟨rfl, rfl⟩ ⟨rfl, rfl⟩
  · rename_i hu
    cases hc; cases hd
    exact nilB_ok h (eqP_nil hu _) x y ⟨rfl, rfl⟩ ⟨rfl, rfl⟩
  · rename_i hu
    cases hc; cases hd
    exact nilB_ok h (eqM_nil hu _) x y ⟨rfl, rfl⟩ ⟨rfl, rfl⟩
  · rename_i hu
    cases hc; cases hd
    exact nilB_ok h (eqM_nil hu _) x y ⟨rfl, rfl⟩ ⟨rfl, rfl⟩
  · rename_i hu
    cases hc; cases hd
    exact nilB_ok h (eqS_nil hu _ _ _) x y ⟨rfl, rfl⟩ ⟨rfl, rfl⟩
  · rename_i hu
    cases hc; cases hd
    exact nilB_ok h (eqS_nil hu _ _ _) x y ⟨rfl, rfl⟩ ⟨rfl, rfl⟩
  · rename_i hu
    cases hc; cases hd
    exact nilB_ok h (eqS_nil hu _ _ _) x y ⟨rfl, rfl⟩ ⟨rfl, rfl⟩
  · cases h
/-- a number of which only a remainder is known -/
noncomputable def remM (op : BinOp) (k : IntKind) (m q : Nat) (k' : IntKind) (z : Int) : Option AV :=
  match op with
  | .rem => iff' (Bool.and (decide (k = k')) (Bool.and (eqI z (.ofNat m)) (not (Nat.beq m 0)))) (some (.i k (.ofNat q)))
  | _ => none
theorem remM_ok {ρ : Rn} {P : Program} {op : BinOp} {k k' : IntKind} {m q n : Nat} {z : Int} {c : AV} (h : remM op k m q k' z = some c) (hq : n % m = q) (t : TypeId) (x y : Operand) :
    ∃ v, R ρ c (.v v) ∧ ∀ w, (do eqGuard op t x y (.int k n) (.int k' z); binOp op t (.int k n) (.int k' z) : Sem Value).run P w = .ok v w := by
  unfold remM at h
  split at h
  · obtain ⟨h3, h⟩ := iff_eq h
    cases h
    simp only [Bool.and_eq_true, decide_eq_true_eq, eqI_eq, beq_iff_eq, Bool.not_eq_true'] at h3
    obtain ⟨rfl, rfl, h4⟩ := h3
    have hm : m ≠ 0 := by intro e; subst e; exact Bool.noConfusion h4
    have hm' : (m : Int) ≠ 0 := by omega
    have e1 : (n : Int).tmod (m : Int) = (q : Int) := by rw [Int.tmod_eq_emod_of_nonneg (by omega), ← hq]; simp
    refine ⟨.int k q, .i k _, fun w => ?_⟩
    simp [eqGuard_at_int, binOp_rem, Op.intDiv, hm, e1]
  · cases h
noncomputable def opBin (P : Program) (G : Nat) (tm : En) (op : BinOp) (t : TypeId) (x y : Operand) : Option AV :=
  ob (opd G tm x) fun c => ob (opd G tm y) fun d =>
    match c, d with
    | .i k a, .i k' b => match decEq k k' with
      | isTrue _ => match binI op k a b with
        | some r => some r
        | none => binB P op t x y c d
      | isFalse _ => binB P op t x y c d
    | .md k m r, .i k' b => remM op k m r k' b
    | c, d => match binN P op t c d with
      | some r => some r
      | none => binB P op t x y c d

section
variable {P : Program} {G nt : Nat} {ρ : Rn} {tm : En} {e : Act}
theorem opdG (ht : TR ρ tm nt e.tmps) (hg : ∀ g, g < G → ρ g = some (g, 0)) {x : Operand} {c : AV} (hx : opd G tm x = some c) : R ρ c (.v (e.eval x)) := by
  cases x
  · obtain ⟨v, h1, h2⟩ := ht.2 _ _ hx
    show R ρ c (.v (e.tmps.getD _ undef))
    rw [Array.getD_eq_getD_getElem?, h1]
    exact h2
  · exact ofV_ok hx
  · rename_i g
    obtain ⟨h1, h2⟩ := iff_eq hx
    cases h2
    exact .p (hg g (by simpa [Nat.blt_eq] using h1))
  · cases hx
    exact .f .nil
theorem binB_ok {op : BinOp} {t : TypeId} {x y : Operand} {c d r : AV} (hc : R ρ c (.v (e.eval x))) (hd : R ρ d (.v (e.eval y))) (h : binB P op t x y c d = some r) :
    ∃ z, R ρ r (.v z) ∧ ∀ w, (do eqGuard op t x y (e.eval x) (e.eval y); binOp op t (e.eval x) (e.eval y) : Sem Value).run P w = .ok z w := by
  obtain ⟨v, h1, h⟩ := ob_eq h
  obtain ⟨u, h2, h⟩ := ob_eq h
  obtain ⟨z, h3, h⟩ := ob_eq h
  rw [toV_ok h1 hc, toV_ok h2 hd]
  exact ⟨z, (ofS_ok h).1, runS_ok h3⟩
theorem opBin_ok (ht : TR ρ tm nt e.tmps) (hg : ∀ g, g < G → ρ g = some (g, 0)) {op : BinOp} {t : TypeId} {x y : Operand} {r : AV} (h : opBin P G tm op t x y = some r) :
    ∃ z, R ρ r (.v z) ∧ ∀ w, (do eqGuard op t x y (e.eval x) (e.eval y); binOp op t (e.eval x) (e.eval y) : Sem Value).run P w = .ok z w := by
  obtain ⟨c, h1, h⟩ := ob_eq h
  obtain ⟨d, h2, h⟩ := ob_eq h
  have r1 := opdG ht hg h1
  have r2 := opdG ht hg h2
  split at h
  · rename_i k a k' b
    split at h
    · rename_i hk _
      split at h
      · rename_i r' hr
        cases h
        subst hk
        obtain ⟨v, e1, e2⟩ := binI_ok hr P t
        generalize e.eval x = vx at r1
        generalize e.eval y = vy at r2
        cases r1; cases r2
        refine ⟨v, ?_, fun w => by simp [eqGuard_at_int, e2]⟩
        have := e1
        cases r <;> simp [toS] at this <;> subst this <;> constructor
      · exact binB_ok r1 r2 h
    · exact binB_ok r1 r2 h
  · generalize e.eval x = vx at r1
    generalize e.eval y = vy at r2
    cases r1; cases r2
    rename_i hq
    exact remM_ok h hq t x y
  · split at h
    · rename_i r' hr
      cases h
      obtain ⟨z, e1, e2⟩ := binN_ok hr r1 r2 x y
      exact ⟨z, e1, e2⟩
    · exact binB_ok r1 r2 h
end

end Go.Proofs.YthlphddehdjfjaaGreatDoor
