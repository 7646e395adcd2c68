/- A reading of closed calls that the kernel can run: the same by bare recursors, for speed. -/
import Derived.Test.YthlphddehdjfjaaGreatDoorEwJ
namespace Go.Proofs.YthlphddehdjfjaaGreatDoor
open Go.RowKit
set_option linter.unusedVariables false
set_option linter.unusedSimpArgs false
set_option linter.unusedSectionVars false

/-! ## what a value is -/
noncomputable def AV.isB (c : AV) : Option Bool :=
  AV.rec (motive := fun _ => Option Bool) none (fun b => some b) (fun _ _ => none) (fun _ => none) (fun _ _ => none) none (fun _ _ _ _ => none) (fun _ _ => none) none (fun _ => none)
    none (fun _ _ _ => none) (fun _ => none) none (fun _ _ _ => none) none (fun _ _ => none) (fun _ _ => none) none (fun _ _ _ _ => none) (fun _ _ _ => none) (fun _ _ _ _ _ => none) c
noncomputable def AV.isI (c : AV) : Option (IntKind × Int) :=
  AV.rec (motive := fun _ => Option (IntKind × Int)) none (fun _ => none) (fun k n => some (k, n)) (fun _ => none) (fun _ _ => none) none (fun _ _ _ _ => none) (fun _ _ => none) none (fun _ => none)
    none (fun _ _ _ => none) (fun _ => none) none (fun _ _ _ => none) none (fun _ _ => none) (fun _ _ => none) none (fun _ _ _ _ => none) (fun _ _ _ => none) (fun _ _ _ _ _ => none) c
noncomputable def AV.isP (c : AV) : Option (Nat × Nat) :=
  AV.rec (motive := fun _ => Option (Nat × Nat)) none (fun _ => none) (fun _ _ => none) (fun _ => none) (fun a b => some (a, b)) none (fun _ _ _ _ => none) (fun _ _ => none) none (fun _ => none)
    none (fun _ _ _ => none) (fun _ => none) none (fun _ _ _ => none) none (fun _ _ => none) (fun _ _ => none) none (fun _ _ _ _ => none) (fun _ _ _ => none) (fun _ _ _ _ _ => none) c
noncomputable def AV.isT (c : AV) : Option AV :=
  AV.rec (motive := fun _ => Option AV) none (fun _ => none) (fun _ _ => none) (fun _ => none) (fun _ _ => none) none (fun _ _ _ _ => none) (fun _ _ => none) none (fun _ => none)
    none (fun _ _ _ => none) (fun _ => none) none (fun _ _ _ => none) none (fun _ _ => none) (fun l _ => some l) none (fun _ _ _ _ => none) (fun _ _ _ => none) (fun _ _ _ _ _ => none) c
noncomputable def AV.isF (c : AV) : Option (FuncId × AV) :=
  AV.rec (motive := fun _ => Option (FuncId × AV)) none (fun _ => none) (fun _ _ => none) (fun _ => none) (fun _ _ => none) none (fun _ _ _ _ => none) (fun _ _ => none) none (fun _ => none)
    none (fun f l _ => some (f, l)) (fun _ => none) none (fun _ _ _ => none) none (fun _ _ => none) (fun _ _ => none) none (fun _ _ _ _ => none) (fun _ _ _ => none) (fun _ _ _ _ _ => none) c

/-! ## numbers -/
noncomputable def ltF (x y : Int) : Bool :=
  Int.rec (motive := fun _ => Int → Bool) (fun m y => Int.rec (motive := fun _ => Bool) (fun n => Nat.blt m n) (fun _ => false) y) (fun m y => Int.rec (motive := fun _ => Bool) (fun _ => true) (fun n => Nat.blt n m) y) x y
theorem ltF_eq : ltF = ltI := by funext x y; cases x <;> cases y <;> rfl
noncomputable def eqF (x y : Int) : Bool :=
  Int.rec (motive := fun _ => Int → Bool) (fun m y => Int.rec (motive := fun _ => Bool) (fun n => Nat.beq m n) (fun _ => false) y) (fun m y => Int.rec (motive := fun _ => Bool) (fun _ => false) (fun n => Nat.beq m n) y) x y
theorem eqF_eq : eqF = eqI := by funext x y; cases x <;> cases y <;> rfl
noncomputable def inF (k : IntKind) (n : Int) : Bool :=
  IntKind.rec (motive := fun _ => Int → Bool) (fun _ => false) (fun _ => false) (fun n => Int.rec (motive := fun _ => Bool) (fun m => Nat.blt m 2147483648) (fun _ => false) n)
    (fun n => Int.rec (motive := fun _ => Bool) (fun m => Nat.blt m 9223372036854775808) (fun m => Nat.blt m 9223372036854775808) n) (fun n => Int.rec (motive := fun _ => Bool) (fun m => Nat.blt m 256) (fun _ => false) n)
    (fun n => Int.rec (motive := fun _ => Bool) (fun m => Nat.blt m 65536) (fun _ => false) n) (fun n => Int.rec (motive := fun _ => Bool) (fun m => Nat.blt m 4294967296) (fun _ => false) n)
    (fun n => Int.rec (motive := fun _ => Bool) (fun m => Nat.blt m 18446744073709551616) (fun _ => false) n) k n
theorem inF_eq : inF = inK := by funext k n; cases k <;> cases n <;> rfl
noncomputable def adF (x y : Int) : Int := Int.rec (motive := fun _ => Int → Int) (fun m y => Int.rec (motive := fun _ => Int) (fun n => .ofNat (m + n)) (fun n => Int.add (.ofNat m) (.negSucc n)) y) (fun m y => Int.add (.negSucc m) y) x y
theorem adF_eq : adF = Int.add := by funext x y; cases x <;> cases y <;> rfl
noncomputable def kN (k : IntKind) : Nat := IntKind.rec (motive := fun _ => Nat) 0 1 2 3 4 5 6 7 k
theorem kN_eq {j k : IntKind} : Nat.beq (kN j) (kN k) = decide (j = k) := by cases j <;> cases k <;> rfl
noncomputable def biF (op : BinOp) (k : IntKind) (x y : Int) : Option AV :=
  BinOp.rec (motive := fun _ => IntKind → Int → Int → Option AV)
    (fun k x y => fI (adF x y) fun z => iff' (inF k z) (some (.i k z))) (fun k x y => fI (Int.sub x y) fun z => iff' (inF k z) (some (.i k z))) (fun k x y => fI (Int.mul x y) fun z => iff' (inF k z) (some (.i k z)))
    (fun _ _ _ => none) (fun _ _ _ => none) (fun _ _ _ => none) (fun _ _ _ => none) (fun _ _ _ => none) (fun _ _ _ => none) (fun _ _ _ => none) (fun _ _ _ => none)
    (fun _ x y => fB (eqF x y) fun z => some (.b z)) (fun _ x y => fB (not (eqF x y)) fun z => some (.b z)) (fun _ x y => fB (ltF x y) fun z => some (.b z)) (fun _ x y => fB (not (ltF y x)) fun z => some (.b z))
    (fun _ x y => fB (ltF y x) fun z => some (.b z)) (fun _ x y => fB (not (ltF x y)) fun z => some (.b z)) op k x y
theorem biF_eq : biF = binI := by
  funext op k x y
  unfold biF binI
  rw [adF_eq, inF_eq, eqF_eq, ltF_eq]
  cases op <;> rfl
noncomputable def binC (P : Program) (op : BinOp) (t : TypeId) (x y : Operand) (c d : AV) : Option AV :=
  match c, d with
  | .i k a, .i k' b => match decEq k k' with
    | isTrue _ => match binI op k a b with
      | some r => some r
      | none => binB P op t x y c d
    | isFalse _ => binB P op t x y c d
  | .md k m r, .i k' b => remM op k m r k' b
  | c, d => match binN P op t c d with
    | some r => some r
    | none => binB P op t x y c d
noncomputable def orO {α : Type} (x y : Option α) : Option α := Option.rec (motive := fun _ => Option α) y (fun a => some a) x
noncomputable def binF (P : Program) (op : BinOp) (t : TypeId) (x y : Operand) (c d : AV) : Option AV :=
  Option.rec (motive := fun _ => Option AV) (binC P op t x y c d) (fun p => Option.rec (motive := fun _ => Option AV) (binC P op t x y c d)
    (fun q => Bool.rec (motive := fun _ => Option AV) (binC P op t x y c d) (orO (biF op p.1 p.2 q.2) (binB P op t x y c d)) (Nat.beq (kN p.1) (kN q.1))) d.isI) c.isI
theorem binF_eq : binF = binC := by
  funext P op t x y c d
  unfold binF
  cases hc : c.isI with
  | none => rfl
  | some p =>
    cases hd : d.isI with
    | none => rfl
    | some q =>
      obtain ⟨k, a⟩ := p
      obtain ⟨k', b⟩ := q
      have hc' : c = .i k a := by cases c <;> simp [AV.isI] at hc; obtain ⟨rfl, rfl⟩ := hc; rfl
      have hd' : d = .i k' b := by cases d <;> simp [AV.isI] at hd; obtain ⟨rfl, rfl⟩ := hd; rfl
      subst hc'; subst hd'
      show Bool.rec (motive := fun _ => Option AV) _ _ (Nat.beq (kN k) (kN k')) = _
      rw [kN_eq, biF_eq]
      by_cases hk : k = k'
      · subst hk
        rw [decide_eq_true rfl]
        show orO (binI op k a b) _ = binC P op t x y (.i k a) (.i k b)
        unfold binC
        dsimp only
        split
        · cases hb : binI op k a b <;> rfl
        · rename_i hn _; exact absurd rfl hn
      · rw [decide_eq_false hk]
noncomputable def opBinF (P : Program) (G : Nat) (tm : En) (op : BinOp) (t : TypeId) (x y : Operand) : Option AV := ob (opd G tm x) fun c => ob (opd G tm y) fun d => binF P op t x y c d
theorem opBinF_eq : opBinF = opBin := by
  funext P G tm op t x y
  unfold opBinF
  rw [binF_eq]
  rfl

/-! ## more -/
noncomputable def unF (P : Program) (op : UnOp) (c : AV) : Option AV :=
  UnOp.rec (motive := fun _ => Program → AV → Option AV) (fun P c => ob (toS c) fun v => ob (runS P (Op.unary .neg v)) ofS) (fun P c => ob (toS c) fun v => ob (runS P (Op.unary .xor v)) ofS)
    (fun P c => Option.rec (motive := fun _ => Option AV) (ob (toS c) fun v => ob (runS P (Op.unary .not v)) ofS) (fun b => fB (not b) fun z => some (.b z)) c.isB) (fun P c => ob (toS c) fun v => ob (runS P (Op.unary .plus v)) ofS) op P c
noncomputable def opUnaF (P : Program) (G : Nat) (tm : En) (op : UnOp) (x : Operand) : Option AV := ob (opd G tm x) (unF P op)
theorem opUnaF_eq : opUnaF = opUna := by
  funext P G tm op x
  unfold opUnaF opUna
  congr 1
  funext c
  cases op <;> cases c <;> rfl
noncomputable def opPicF (G : Nat) (tm : En) (c x y : Operand) : Option AV := ob (opd G tm c) fun b => Option.rec (motive := fun _ => Option AV) none (fun z => Bool.rec (motive := fun _ => Option AV) (opd G tm y) (opd G tm x) z) b.isB
noncomputable def opNilF (G : Nat) (tm : En) (x : Operand) : Option AV := ob (opd G tm x) fun c => Option.rec (motive := fun _ => Option AV) (opNil G tm x) (fun q => some (.p q.1 q.2)) c.isP
theorem opNilF_eq : opNilF = opNil := by
  funext G tm x
  unfold opNilF
  cases h : opd G tm x with
  | none => unfold opNil; rw [h]; rfl
  | some c =>
    show Option.rec (motive := fun _ => Option AV) (opNil G tm x) (fun q => some (.p q.1 q.2)) c.isP = _
    cases c <;> first | rfl | (unfold opNil; rw [h]; rfl)
noncomputable def opFldF (P : Program) (G : Nat) (tm : En) (s : TypeId) (x : Operand) (f : Nat) : Option AV :=
  ob (opd G tm x) fun c => Option.rec (motive := fun _ => Option AV) none (fun q => ob (foA P s f) fun d => fN (q.2 + d) fun o => some (.p q.1 o)) c.isP
theorem opFldF_eq : opFldF = opFld := by
  funext P G tm s x f
  unfold opFldF opFld
  congr 1
  funext c
  cases c <;> rfl
noncomputable def opExtF (G : Nat) (tm : En) (x : Operand) (n : Nat) : Option AV := ob (opd G tm x) fun c => Option.rec (motive := fun _ => Option AV) none (fun l => l.nth n) c.isT
theorem opExtF_eq : opExtF = opExt := by
  funext G tm x n
  unfold opExtF opExt
  congr 1
  funext c
  cases c <;> rfl
/-- the cells of a block -/
noncomputable def AO.tab (o : AO) : Option (Tr AV) := AO.rec (motive := fun _ => Option (Tr AV)) (fun _ _ u => some u) (fun _ _ u => some u) (fun _ _ => none) (fun _ _ _ _ => none) none (fun _ _ => none) (fun _ _ _ _ _ _ _ _ => none) none o
noncomputable def tblF (h : Tr AO) (id : Nat) : Option (Tr AV) := ob (h.get id) AO.tab
theorem tblF_eq : tblF = tbl := by
  funext h id
  unfold tblF tbl
  cases h.get id with
  | none => rfl
  | some o => cases o <;> rfl
noncomputable def ldF (P : Program) (t : TypeId) (h : Tr AO) (q : Nat × Nat) : Option AV :=
  ob (tblF h q.1) fun u => ob (agA P t) fun b => Bool.rec (motive := fun _ => Option AV) (u.get q.2) (ob (szA P t) fun n => ob (u.row n q.2) fun l => some (.a l)) b
noncomputable def opLdF (P : Program) (G : Nat) (tm : En) (t : TypeId) (x : Operand) (h : Tr AO) : Option AV := ob (opd G tm x) fun c => Option.rec (motive := fun _ => Option AV) none (ldF P t h) c.isP
theorem opLdF_eq : opLdF = opLd := by
  funext P G tm t x h
  unfold opLdF opLd
  congr 1
  funext c
  cases c <;> first | rfl | (show ldF P t h _ = _; unfold ldF; rw [tblF_eq])
noncomputable def AO.put (o : AO) (u' : Tr AV) : Option AO :=
  AO.rec (motive := fun _ => Tr AV → Option AO) (fun n ty _ u' => some (.c n ty u')) (fun sz ty _ u' => some (.gr sz ty u')) (fun _ _ _ => none) (fun _ _ _ _ _ => none) (fun _ => none) (fun _ _ _ => none) (fun _ _ _ _ _ _ _ _ _ => none) (fun _ => none) o u'
noncomputable def setUF (h : Tr AO) (id : Nat) (u' : Tr AV) : Option (Tr AO) := ob (h.get id) fun o => ob (o.put u') fun o' => some (h.set id o')
theorem setUF_eq : setUF = setU := by
  funext h id u'
  unfold setUF setU
  cases h.get id with
  | none => rfl
  | some o => cases o <;> rfl
noncomputable def layF (h : Tr AO) (id o : Nat) (l : AV) : Option (Tr AO) :=
  iff' (Bool.and l.scs (Nat.blt 0 l.lng)) (ob (tblF h id) fun u => ob (stA u l o) fun u' => ob (setUF h id u') fun h' => some (h'.fc fun h' => h'))
theorem layF_eq : layF = layA := by funext h id o l; unfold layF layA; rw [tblF_eq, setUF_eq]
noncomputable def AV.clF (c : AV) : AV := -- the cells
  AV.rec (motive := fun _ => AV → AV) (fun c => .cons c .nil) (fun _ c => .cons c .nil) (fun _ _ c => .cons c .nil) (fun _ c => .cons c .nil) (fun _ _ c => .cons c .nil) (fun c => .cons c .nil) (fun _ _ _ _ c => .cons c .nil) (fun _ _ c => .cons c .nil) (fun c => .cons c .nil) (fun _ c => .cons c .nil)
    (fun c => .cons c .nil) (fun _ _ _ c => .cons c .nil) (fun _ c => .cons c .nil) (fun c => .cons c .nil) (fun _ _ _ c => .cons c .nil) (fun c => .cons c .nil) (fun l _ _ => l) (fun _ _ c => .cons c .nil) (fun c => .cons c .nil) (fun _ _ _ _ c => .cons c .nil) (fun _ _ _ c => .cons c .nil) (fun _ _ _ _ _ c => .cons c .nil) c c
theorem clF_eq : AV.clF = AV.cells := by funext c; cases c <;> rfl
noncomputable def opStF (P : Program) (G : Nat) (tm : En) (t : TypeId) (x y : Operand) (h : Tr AO) (nx : Nat) : Option (AV × Tr AO × Nat) :=
  ob (opd G tm x) fun c => ob (opd G tm y) fun d => Option.rec (motive := fun _ => Option (AV × Tr AO × Nat)) none (fun q => ob (szA P t) fun n => iff' (Nat.beq d.clF.lng n) (ob (layF h q.1 q.2 d.clF) fun h' => some (.t .nil, h', nx))) c.isP
theorem opStF_eq : opStF = opSt := by
  funext P G tm t x y h nx
  unfold opStF opSt
  rw [clF_eq, layF_eq]
  congr 1
  funext c
  congr 1
  funext d
  cases c <;> rfl
noncomputable def ixF (c : AV) (n : Nat) : Option Nat := Option.rec (motive := fun _ => Option Nat) none (fun q => Int.rec (motive := fun _ => Option Nat) (fun j => iff' (Nat.blt j n) (some j)) (fun _ => none) q.2) c.isI
theorem ixF_eq : ixF = ixA := by
  funext c n
  cases c <;> first | rfl | (rename_i k z; cases z <;> rfl)
noncomputable def opIxaF (P : Program) (G : Nat) (tm : En) (t : TypeId) (x y : Operand) : Option AV :=
  ob (opd G tm x) fun c => ob (opd G tm y) fun d => match P.underlying t, c with
    | some (.array len el), .p id off => ob (ixF d len) fun j => ob (szA P el) fun n => fN (off + j * n) fun o => some (.p id o)
    | some (.slice el), .sl id off len _ => ob (ixF d len) fun j => ob (szA P el) fun n => fN (off + j * n) fun o => some (.p id o)
    | some (.slice el), .gs id len => ob (ixF d len) fun j => ob (szA P el) fun n => fN (j * n) fun o => some (.p id o)
    | _, _ => none
theorem opIxaF_eq : opIxaF = opIxa := by funext P G tm t x y; unfold opIxaF opIxa; rw [ixF_eq]; rfl
noncomputable def opBoxF (G : Nat) (tm : En) (t : TypeId) (x : Operand) : Option AO := ob (opd G tm x) fun c => newO t c.clF
theorem opBoxF_eq : opBoxF = opBox := by funext G tm t x; unfold opBoxF opBox; rw [clF_eq]

end Go.Proofs.YthlphddehdjfjaaGreatDoor
