/- A reading of closed calls that the kernel can run: the evaluator. -/
import Derived.Test.YthlphddehdjfjaaGreatDoorEwHu
import Derived.Test.YthlphddehdjfjaaGreatDoorEwK
namespace Go.Proofs.YthlphddehdjfjaaGreatDoor
open Go.RowKit
set_option linter.unusedVariables false
set_option linter.unusedSimpArgs false
set_option linter.unusedSectionVars false

/-- what an operation is: a value · a reading · a new block · an act -/
inductive Out where
  | pv (v : AV)
  | rd (f : Tr AO → Option AV)
  | al (o : AO) (f : Nat → AV)
  | ac (f : Tr AO → Nat → Option (AV × Tr AO × Nat))
abbrev Cal := FuncId → AV → Tr AO → Nat → Option (AV × Tr AO × Nat)
abbrev Yld := Nat → AV → Tr AO → Nat → Option (AV × Tr AO × Nat)
noncomputable def pvO (x : Option AV) : Option Out := ob x fun v => some (.pv v)
noncomputable def opPick (G : Nat) (tm : En) (c x y : Operand) : Option AV := ob (opd G tm c) fun b => match b with
  | .b z => Bool.rec (motive := fun _ => Option AV) (opd G tm y) (opd G tm x) z
  | _ => none
theorem opPicF_eq : opPicF = opPick := by
  funext G tm c x y
  unfold opPicF opPick
  congr 1
  funext b
  cases b <;> rfl
/-- a method of a pointer behind an interface -/
noncomputable def mthA (P : Program) (t : TypeId) (name : String) : Option FuncId := match P.info? t, P.underlying t with
  | some i, some (.pointer _) => match i.methods.find? (·.name == name) with
    | some m => match m.func, m.path.toList with
      | some (f, true), [] => some f
      | _, _ => none
    | none => none
  | _, _ => none
noncomputable def opCall (P : Program) (G : Nat) (cal : Cal) (yld : Yld) (tm : En) (c : Call) : Option Out :=
  match c.callee with
  | .value f => ob (opd G tm f) fun v => ob (opsA G tm c.args.toList) fun args => match v with
    | .f fn caps => some (.ac (cal fn (args.app caps)))
    | .fb fn fst caps => some (.ac (cal fn ((fst.app args).app caps)))
    | .fy id => some (.ac (yld id args))
    | _ => none
  | .invoke r name => ob (opd G tm r) fun v => ob (opsA G tm c.args.toList) fun args => match v with
    | .x t u => ob (mthA P t name) fun f => some (.ac (cal f (.cons u args)))
    | _ => none
  | .builtin b => match b, c.args.toList with
    | .len, [x] => match opLeP P G tm c.argTypes x with
      | some v => some (.pv v)
      | none => some (.rd (opLeM P G tm c.argTypes x))
    | .min, [x, y] => pvO (opMm P G tm Builtin.min2 x y)
    | .max, [x, y] => pvO (opMm P G tm Builtin.max2 x y)
    | .append, [x, y] => some (.ac (opAq P G tm c.argTypes x y))
    | .copy, [x, y] => some (.ac (opCo P G tm c.argTypes x y))
    | .delete, [x, y] => some (.ac (opDe P G tm c.argTypes x y))
    | .clear, [x] => some (.ac (opCl P G tm c.argTypes x))
    | _, _ => none
noncomputable def cvK (cal : Cal) (yld : Yld) (args v : AV) : Option Out :=
  Option.rec (motive := fun _ => Option Out) (match v with
    | .f fn caps => some (.ac (cal fn (args.app caps)))
    | .fb fn fst caps => some (.ac (cal fn ((fst.app args).app caps)))
    | .fy id => some (.ac (yld id args))
    | _ => none) (fun q => some (.ac (cal q.1 (args.app q.2)))) v.isF
noncomputable def opCallF (P : Program) (G : Nat) (cal : Cal) (yld : Yld) (tm : En) (c : Call) : Option Out :=
  Callee.rec (motive := fun _ => Program → Nat → Cal → Yld → En → Call → Option Out) (fun f _ G cal yld tm c => ob (opd G tm f) fun v => ob (opsA G tm c.args.toList) fun args => cvK cal yld args v)
    (fun _ _ P G cal yld tm c => opCall P G cal yld tm c) (fun _ P G cal yld tm c => opCall P G cal yld tm c) c.callee P G cal yld tm c
theorem opCallF_eq : opCallF = opCall := by
  funext P G cal yld tm c
  obtain ⟨f, args, ts⟩ := c
  cases f with
  | value f =>
    show (ob (opd G tm f) fun v => ob (opsA G tm args.toList) fun args => cvK cal yld args v) = (ob (opd G tm f) fun v => ob (opsA G tm args.toList) fun args => _)
    congr 1
    funext v
    congr 1
    funext args
    cases v <;> rfl
  | invoke r n => rfl
  | builtin b => rfl
noncomputable def opOut (P : Program) (G : Nat) (cal : Cal) (yld : Yld) (tm : En) (o : Oper) : Option Out :=
  match o.op with
  | .move x => pvO (opd G tm x)
  | .assign x => pvO (opd G tm x)
  | .pick c x y => pvO (opPick G tm c x y)
  | .alloc t => ob (opAll P t) fun a => some (.al a (fun i => .p i 0))
  | .box t x => ob (opBox G tm t x) fun a => some (.al a (fun i => .p i 0))
  | .build t ps => pvO (opBld P G tm t ps)
  | .buildSlice t n ps => ob (opBsl P G tm t n ps) fun a => some (.al a (fun i => .sl i 0 n n))
  | .insert t m k v => some (.ac (opMu P G tm t m k v))
  | .load t x => some (.rd (opLd P G tm t x))
  | .store t x y => some (.ac (opSt P G tm t x y))
  | .nilCheck x => pvO (opNil G tm x)
  | .binOp op t x y _ => pvO (opBin P G tm op t x y)
  | .unOp op _ x => pvO (opUna P G tm op x)
  | .convert s t x => pvO (opCnv P G tm s t x)
  | .makeInterface t x => pvO (opMki P G tm t x)
  | .makeFunc fn a b => pvO (opMkf G tm fn a b)
  | .makeMap t r => ob (opMkm P t r) fun a => some (.al a (fun i => .m i))
  | .makeSlice t x y => ob (opMks P G tm t x y) fun q => some (.al q.1 q.2)
  | .slice t x lo hi mx => pvO (opSli P G tm t x lo hi mx)
  | .fieldAddr s x f => pvO (opFld P G tm s x f)
  | .field t x f => pvO (opFie P G tm t x f)
  | .indexAddr t x y => pvO (opIxa P G tm t x y)
  | .index t x y => pvO (opIdx P G tm t x y)
  | .lookup t x y ok => some (.rd (opLk P G tm t x y ok))
  | .mapUpdate t m k v => some (.ac (opMu P G tm t m k v))
  | .mapEntry t m k => some (.ac (opMe P G tm t m k))
  | .entryStore _ m s v => some (.ac (opEs P G tm m s v))
  | .range t x => match opRs P G tm t x with
    | some a => some (.al a (fun i => .p i 0))
    | none => some (.ac (opRm P G tm t x))
  | .next x s => some (.ac (opNx G tm x s))
  | .entry x => some (.rd (opEn G tm x))
  | .typeAssert x _ t ok => pvO (opTas P G tm x t ok)
  | .extract x n => pvO (opExt G tm x n)
  | .call c => opCall P G cal yld tm c
  | _ => none

/-- the same by the recursor -/
abbrev OF := Program → Nat → Cal → Yld → En → Option Out
noncomputable def opOutF (op : Op) : OF :=
  Op.rec (motive := fun _ => OF)
    (fun x _ G _ _ tm => pvO (opd G tm x)) (fun x _ G _ _ tm => pvO (opd G tm x)) (fun c x y _ G _ _ tm => pvO (opPicF G tm c x y))
    (fun t P _ _ _ _ => ob (opAll P t) fun a => some (.al a (fun i => .p i 0))) (fun t x _ G _ _ tm => ob (opBoxF G tm t x) fun a => some (.al a (fun i => .p i 0)))
    (fun t ps P G _ _ tm => pvO (opBld P G tm t ps)) (fun t n ps P G _ _ tm => ob (opBsl P G tm t n ps) fun a => some (.al a (fun i => .sl i 0 n n)))
    (fun t m k v P G _ _ tm => some (.ac (opMu P G tm t m k v))) (fun t x P G _ _ tm => some (.rd (opLdF P G tm t x))) (fun t x y P G _ _ tm => some (.ac (opStF P G tm t x y)))
    (fun _ _ _ _ _ _ => none) (fun _ _ _ _ _ _ => none) (fun x _ G _ _ tm => pvO (opNilF G tm x)) (fun op t x y _ P G _ _ tm => pvO (opBinF P G tm op t x y)) (fun op _ x P G _ _ tm => pvO (opUnaF P G tm op x))
    (fun s t x P G _ _ tm => pvO (opCnv P G tm s t x)) (fun _ _ _ _ _ _ _ => none) (fun t x P G _ _ tm => pvO (opMki P G tm t x)) (fun fn a b _ G _ _ tm => pvO (opMkf G tm fn a b))
    (fun t r P _ _ _ _ => ob (opMkm P t r) fun a => some (.al a (fun i => .m i))) (fun _ _ _ _ _ _ _ => none) (fun t x y P G _ _ tm => ob (opMks P G tm t x y) fun q => some (.al q.1 q.2))
    (fun t x lo hi mx P G _ _ tm => pvO (opSli P G tm t x lo hi mx)) (fun s x f P G _ _ tm => pvO (opFldF P G tm s x f)) (fun t x f P G _ _ tm => pvO (opFie P G tm t x f))
    (fun t x y P G _ _ tm => pvO (opIxaF P G tm t x y)) (fun t x y P G _ _ tm => pvO (opIdx P G tm t x y)) (fun t x y ok P G _ _ tm => some (.rd (opLk P G tm t x y ok)))
    (fun t m k v P G _ _ tm => some (.ac (opMu P G tm t m k v))) (fun t m k P G _ _ tm => some (.ac (opMe P G tm t m k))) (fun _ m s v P G _ _ tm => some (.ac (opEs P G tm m s v)))
    (fun t x P G _ _ tm => match opRs P G tm t x with
      | some a => some (.al a (fun i => .p i 0))
      | none => some (.ac (opRm P G tm t x)))
    (fun x s _ G _ _ tm => some (.ac (opNx G tm x s))) (fun x _ G _ _ tm => some (.rd (opEn G tm x))) (fun x _ t ok P G _ _ tm => pvO (opTas P G tm x t ok)) (fun x n _ G _ _ tm => pvO (opExtF G tm x n))
    (fun c P G cal yld tm => opCallF P G cal yld tm c) (fun _ _ _ _ _ _ => none) (fun _ _ _ _ _ _ => none) (fun _ _ _ _ _ _ => none) (fun _ _ _ _ _ _ _ => none) (fun _ _ _ _ _ _ _ _ => none) (fun _ _ _ _ _ _ _ => none) op
theorem opOutF_eq (P : Program) (G : Nat) (cal : Cal) (yld : Yld) (tm : En) (o : Oper) : opOutF o.op P G cal yld tm = opOut P G cal yld tm o := by
  unfold opOut
  have e : opCallF = opCall := opCallF_eq
  cases o.op <;> first
    | rfl
    | (show pvO _ = pvO _; congr 1; rw [opPicF_eq]; done)
    | (show pvO _ = pvO _; rw [opNilF_eq]; done)
    | (show pvO _ = pvO _; rw [opBinF_eq]; done)
    | (show pvO _ = pvO _; rw [opUnaF_eq]; done)
    | (show pvO _ = pvO _; rw [opFldF_eq]; done)
    | (show pvO _ = pvO _; rw [opIxaF_eq]; done)
    | (show pvO _ = pvO _; rw [opExtF_eq]; done)
    | (show some (Out.rd _) = some (Out.rd _); rw [opLdF_eq]; done)
    | (show some (Out.ac _) = some (Out.ac _); rw [opStF_eq]; done)
    | (show ob _ _ = ob _ _; rw [opBoxF_eq]; done)
    | (show opCallF _ _ _ _ _ _ = _; rw [e]; done)

structure St where
  tm : En
  h : Tr AO
  nx : Nat
  ms : List Nat
/-- the destination takes a value -/
noncomputable def putA (d : Option Tmp) : Nat → En → AV → Option En :=
  Option.rec (motive := fun _ => Nat → En → AV → Option En) (fun _ tm _ => some tm) (fun d nt tm v => iff' (Nat.blt d nt) (some (tm.put d v))) d
noncomputable def tb (m k : Nat) : Bool := Nat.beq (Nat.land (Nat.shiftRight m k) 1) 1
/-- behind a region: what is read elsewhere goes into the table -/
noncomputable def flsL (l : List (Nat × AV)) : Nat → Tr AV → Tr AV :=
  List.rec (motive := fun _ => Nat → Tr AV → Tr AV) (fun _ t => t) (fun q _ ih km t => Bool.rec (motive := fun _ => Tr AV) (ih km t) (((ih km t).set q.1 q.2).fc fun t => t) (tb km q.1)) l
noncomputable def flsE (km : Nat) (e : En) : En := (flsL e.l km e.t).fc fun t => ⟨[], t⟩
/-- is an operation wanted -/
noncomputable def gdA (ops : Array Oper) (tm : En) (j : Nat) (b : Bool) : Option Bool :=
  match ops[j]? with
  | some q => match q.dst with
    | some d => match tm.get d with
      | some (.b x) => some (Bool.rec (motive := fun _ => Bool) (not x) x b)
      | some (.t .nil) => some false
      | _ => none
    | none => none
  | none => none
noncomputable def doO (out : Out) : Nat → Option Tmp → St → Option St :=
  Out.rec (motive := fun _ => Nat → Option Tmp → St → Option St) (fun v nt d st => ob (putA d nt st.tm v) fun t => some ⟨t, st.h, st.nx, st.ms⟩)
    (fun f nt d st => ob (f st.h) fun v => ob (putA d nt st.tm v) fun t => some ⟨t, st.h, st.nx, st.ms⟩)
    (fun a f nt d st => ob (putA d nt st.tm (f st.nx)) fun t => (st.h.set st.nx a).fc fun h => fN (st.nx + 1) fun n => some ⟨t, h, n, st.ms⟩)
    (fun f nt d st => ob (f st.h st.nx) fun r => ob (putA d nt st.tm r.1) fun t => some ⟨t, r.2.1, r.2.2, st.ms⟩) out
noncomputable def wan (P : Program) (G : Nat) (cal : Cal) (yld : Yld) (nt : Nat) (o : Oper) (st : St) : Option St := ob (opOutF o.op P G cal yld st.tm) fun out => doO out nt o.dst st
noncomputable def ev1 (P : Program) (G : Nat) (cal : Cal) (yld : Yld) (nt : Nat) (ops : Array Oper) (o : Oper) (st : St) : Option St :=
  Option.rec (motive := fun _ => Program → Nat → Cal → Yld → Nat → Array Oper → Oper → St → Option St) (fun P G cal yld nt _ o st => wan P G cal yld nt o st)
    (fun g P G cal yld nt ops o st => ob (gdA ops st.tm g.1 g.2) fun b => Bool.rec (motive := fun _ => Option St) (ob (putA o.dst nt st.tm (.t .nil)) fun t => some ⟨t, st.h, st.nx, st.ms⟩) (wan P G cal yld nt o st) b)
    o.guard P G cal yld nt ops o st
noncomputable def evL (l : List Oper) : Program → Nat → Cal → Yld → Nat → Array Oper → St → Option St :=
  List.rec (motive := fun _ => Program → Nat → Cal → Yld → Nat → Array Oper → St → Option St) (fun _ _ _ _ _ _ st => some st)
    (fun o _ ih P G cal yld nt ops st => ob (ev1 P G cal yld nt ops o st) (ih P G cal yld nt ops)) l

/-! ## regions that draw their order -/
inductive Kd where
  | z
  | r (f : Tr AO → Option AV) (v : AV)
  | n (a : AO)
  | c (h : Tr AO)
/-- the operations ahead of each, as numbers -/
noncomputable def bf1 (t : Tr Nat) (es : List Edge) : Nat := List.rec (motive := fun _ => Nat) 0 (fun e _ ih => Bool.rec (motive := fun _ => Nat) ih (Nat.lor (Nat.lor ih (Nat.pow 2 e.on)) (Option.rec (motive := fun _ => Nat) 0 (fun m => m) (t.get e.on))) (Region.binds .any e)) es
noncomputable def bfT (l : List Oper) : Nat → Tr Nat → Tr Nat := List.rec (motive := fun _ => Nat → Tr Nat → Tr Nat) (fun _ t => t) (fun o _ ih i t => fN (bf1 t o.after.toList) fun m => (t.set i m).fc (ih (i + 1))) l
noncomputable def bfA (T : Tr Nat) (i : Nat) : Nat := Option.rec (motive := fun _ => Nat) 0 (fun m => m) (T.get i)
/-- all ids of a value are below n -/
noncomputable def AV.bd (n : Nat) (v : AV) : Bool := AV.rec (motive := fun _ => Bool) true (fun _ => true) (fun _ _ => true) (fun _ => true) (fun id _ => Nat.blt id n) true (fun id _ _ _ => Nat.blt id n) (fun id _ => Nat.blt id n) true (fun id => Nat.blt id n)
  true (fun _ _ ih => ih) (fun id => Nat.blt id n) true (fun _ _ ih => ih) true (fun _ ih => ih) (fun _ ih => ih) true (fun _ _ h t => Bool.rec (motive := fun _ => Bool) false t h) (fun _ _ _ => true) (fun _ _ _ h t => Bool.rec (motive := fun _ => Bool) false t h) v
/-- a new block that waits for an act behind it: (place, id, block) -/
abbrev Pd := Nat × Nat × AO
/-- those that are ahead of an act are laid -/
noncomputable def flsA (T : Tr Nat) (i : Nat) (h : Tr AO) (pe : List Pd) : Tr AO :=
  List.rec (motive := fun _ => Tr AO) h (fun q _ ih => Bool.rec (motive := fun _ => Tr AO) ih ((ih.set q.2.1 q.2.2).fc fun t => t) ((bfA T i).testBit q.1)) pe
noncomputable def resP (T : Tr Nat) (i : Nat) (pe : List Pd) : List Pd :=
  List.rec (motive := fun _ => List Pd) [] (fun q _ ih => Bool.rec (motive := fun _ => List Pd) (q :: ih) ih ((bfA T i).testBit q.1)) pe
noncomputable def allP (h : Tr AO) (pe : List Pd) : Tr AO := List.rec (motive := fun _ => Tr AO) h (fun q _ ih => (ih.set q.2.1 q.2.2).fc fun t => t) pe
/-- the temporaries that an operation reads -/
noncomputable def rstL (l : List Operand) : En → List (Nat × AV) := List.rec (motive := fun _ => En → List (Nat × AV)) (fun _ => [])
  (fun x _ ih tm => Operand.rec (motive := fun _ => List (Nat × AV)) (fun t => Option.rec (motive := fun _ => List (Nat × AV)) (ih tm) (fun v => (t, v) :: ih tm) (tm.get t)) (fun _ => ih tm) (fun _ => ih tm) (fun _ => ih tm) x) l
noncomputable def rstE (o : Oper) (tm : En) : En := ⟨rstL o.op.operands.toList tm, .e⟩
noncomputable def do1D (T : Tr Nat) (nt : Nat) (i : Nat) (d : Option Tmp) (st : St) (pe : List Pd) (out : Out) : Option (St × List Pd × Kd) := match out with
  | .pv v => ob (putA d nt st.tm v) fun t => some (⟨t, st.h, st.nx, st.ms⟩, pe, .z)
  | .rd f => ob (f st.h) fun v => iff' (v.bd st.nx) (ob (putA d nt st.tm v) fun t => some (⟨t, st.h, st.nx, st.ms⟩, pe, .r f v))
  | .al a f => ob (putA d nt st.tm (f st.nx)) fun t => fN (st.nx + 1) fun n => some (⟨t, st.h, n, st.ms⟩, (i, st.nx, a) :: pe, .n a)
  | .ac f => ob (f (flsA T i st.h pe) st.nx) fun r => iff' (Nat.ble st.nx r.2.2) (ob (putA d nt st.tm r.1) fun t => some (⟨t, r.2.1, r.2.2, st.ms⟩, resP T i pe, .c r.2.1))
noncomputable def ev1D (P : Program) (G : Nat) (cal : Cal) (yld : Yld) (nt : Nat) (T : Tr Nat) (ops : Array Oper) (i : Nat) (o : Oper) (st : St) (pe : List Pd) : Option (St × List Pd × Kd) :=
  ob (match o.guard with | none => some true | some g => gdA ops st.tm g.1 g.2) fun b => Bool.rec (motive := fun _ => Option (St × List Pd × Kd)) (ob (putA o.dst nt st.tm (.t .nil)) fun t => some (⟨t, st.h, st.nx, st.ms⟩, pe, .z))
    (ob (opOutF o.op P G cal yld (rstE o st.tm)) (do1D T nt i o.dst st pe)) b
noncomputable def evLD (P : Program) (G : Nat) (cal : Cal) (yld : Yld) (nt : Nat) (T : Tr Nat) (ops : Array Oper) (l : List Oper) : Nat → St → List Pd → Option (St × List Pd × List Kd) :=
  List.rec (motive := fun _ => Nat → St → List Pd → Option (St × List Pd × List Kd)) (fun _ st pe => some (st, pe, []))
    (fun o _ ih i st pe => ob (ev1D P G cal yld nt T ops i o st pe) fun r => ob (ih (i + 1) r.1 r.2.1) fun q => some (q.1, q.2.1, r.2.2 :: q.2.2)) l
/-- who writes a temporary -/
noncomputable def dstT (l : List Oper) : Nat → Tr Nat → Option (Tr Nat) := List.rec (motive := fun _ => Nat → Tr Nat → Option (Tr Nat)) (fun _ t => some t)
  (fun o _ ih i t => Option.rec (motive := fun _ => Option (Tr Nat)) (ih (i + 1) t) (fun d => Option.rec (motive := fun _ => Option (Tr Nat)) ((t.set d i).fc (ih (i + 1))) (fun _ => none) (t.get d)) o.dst) l
noncomputable def bfB (T : Tr Nat) (i j : Nat) (k : Bool) : Bool := Bool.rec (motive := fun _ => Bool) false (Bool.rec (motive := fun _ => Bool) false k (Nat.blt j i)) (tb (bfA T i) j)
/-- a reader behind the writer, or ahead of it in every order -/
noncomputable def bfO (T : Tr Nat) (i j : Nat) (k : Bool) : Bool := Bool.rec (motive := fun _ => Bool) (Bool.rec (motive := fun _ => Bool) false (Bool.rec (motive := fun _ => Bool) false k (Nat.blt i j)) (tb (bfA T j) i)) (Bool.rec (motive := fun _ => Bool) false k (Nat.blt j i)) (tb (bfA T i) j)
noncomputable def opnB (T D : Tr Nat) (i : Nat) (l : List Operand) : Bool := List.rec (motive := fun _ => Bool) true
  (fun x _ ih => Operand.rec (motive := fun _ => Bool) (fun t => Option.rec (motive := fun _ => Bool) ih (fun j => bfO T i j ih) (D.get t)) (fun _ => ih) (fun _ => ih) (fun _ => ih) x) l
noncomputable def acyB (i : Nat) (l : List Edge) : Bool := List.rec (motive := fun _ => Bool) true (fun e _ ih => Bool.rec (motive := fun _ => Bool) ih (Bool.rec (motive := fun _ => Bool) false ih (Nat.blt e.on i)) (Region.binds .any e)) l
noncomputable def txB (T D : Tr Nat) (l : List Oper) : Nat → Bool := List.rec (motive := fun _ => Nat → Bool) (fun _ => true)
  (fun o _ ih i => Bool.rec (motive := fun _ => Bool) false (Bool.rec (motive := fun _ => Bool) false (Option.rec (motive := fun _ => Bool) (ih (i + 1)) (fun g => bfB T i g.1 (ih (i + 1))) o.guard) (acyB i o.after.toList)) (opnB T D i o.op.operands.toList)) l
/-- what a region's text must be: each temporary is written once, and read behind its writer -/
noncomputable def txA (T : Tr Nat) (ops : Array Oper) : Bool := Option.rec (motive := fun _ => Bool) false (fun D => txB T D ops.toList 0) (dstT ops.toList 0 .e)
/-- the acts, with their places -/
noncomputable def acK (k : Kd) (i : Nat) (l : List (Nat × Tr AO)) : List (Nat × Tr AO) := match k with
  | .c h => (i, h) :: l
  | _ => l
noncomputable def actsA (ks : List Kd) : Nat → List (Nat × Tr AO) :=
  List.rec (motive := fun _ => Nat → List (Nat × Tr AO)) (fun _ => []) (fun k _ ih i => acK k i (ih (i + 1))) ks
/-- a reading is the same wherever it may stand -/
noncomputable def winA (T : Tr Nat) (r : Nat) (f : Tr AO → Option AV) (v : AV) (acts : List (Nat × Tr AO)) : Tr AO → Bool :=
  List.rec (motive := fun _ => Tr AO → Bool) (fun cur => decide (f cur = some v))
    (fun c rest ih cur => Bool.and (Bool.or (List.any (c :: rest) fun q => (bfA T r).testBit q.1) (decide (f cur = some v))) (Bool.or ((bfA T c.1).testBit r) (ih c.2))) acts
noncomputable def chK (T : Tr Nat) (acts : List (Nat × Tr AO)) (h0 : Tr AO) (i : Nat) (k : Kd) : Bool := match k with
  | .z => true
  | .r f v => winA T i f v acts h0
  | .n _ => true
  | .c _ => acts.all fun q => decide (q.1 ≤ i) || (bfA T q.1).testBit i
noncomputable def chkA (T : Tr Nat) (acts : List (Nat × Tr AO)) (h0 : Tr AO) (ks : List Kd) : Nat → Bool :=
  List.rec (motive := fun _ => Nat → Bool) (fun _ => true)
    (fun k _ ih i => Bool.and (chK T acts h0 i k) (ih (i + 1))) ks
noncomputable def evD (P : Program) (G : Nat) (cal : Cal) (yld : Yld) (nt : Nat) (ops : Array Oper) (st : St) : Option St :=
  (bfT ops.toList 0 .e).fc fun T => iff' (txA T ops) (ob (evLD P G cal yld nt T ops ops.toList 0 st []) fun q => iff' (chkA T (actsA q.2.2 0) st.h q.2.2 0) (some ⟨q.1.tm, allP q.1.h q.2.1, q.1.nx, q.1.ms⟩))

/-! ## code -/
inductive XA where
  | normal
  | exit (id : Nat)
  | ret
abbrev EvT := Option Nat → Nat → Nat → Code → St → Option (XA × St)
noncomputable def seqK (ih : EvT) (rd : Option Nat) (nt km : Nat) (c : Code) (r : XA × St) : Option (XA × St) :=
  XA.rec (motive := fun _ => EvT → Option Nat → Nat → Nat → Code → XA × St → Option (XA × St)) (fun ih rd nt km c r => ih rd nt km c r.2) (fun _ _ _ _ _ _ r => some r) (fun _ _ _ _ _ r => some r) r.1 ih rd nt km c r
noncomputable def condK (ih : EvT) (rd : Option Nat) (nt km : Nat) (x y : Code) (st : St) (v : AV) : Option (XA × St) :=
  Option.rec (motive := fun _ => Option (XA × St)) none (fun z => Bool.rec (motive := fun _ => Option (XA × St)) (ih rd nt km y st) (ih rd nt km x st) z) v.isB
noncomputable def blockK (id : Nat) (r : XA × St) : Option (XA × St) :=
  XA.rec (motive := fun _ => Nat → XA × St → Option (XA × St)) (fun _ r => some r) (fun n id r => Bool.rec (motive := fun _ => Option (XA × St)) (some r) (some (.normal, r.2)) (Nat.beq n id)) (fun _ r => some r) r.1 id r
/-- a function's results -/
noncomputable def res1 (P : Program) (tm : En) (h : Tr AO) (r : ResultVar) : Option AV := match r with
  | .tmp t => tm.get t
  | .cell a t => ob (tm.get a) fun c => match c with
    | .p id o => ob (tbl h id) fun u => ob (agA P t) fun b => Bool.rec (motive := fun _ => Option AV) (u.get o) (ob (szA P t) fun n => ob (u.row n o) fun l => some (.a l)) b
    | _ => none
noncomputable def resL (P : Program) (tm : En) (h : Tr AO) (l : List ResultVar) : Option AV := List.rec (motive := fun _ => Option AV) (some .nil) (fun r _ ih => ob (res1 P tm h r) fun c => ob ih fun k => some (.cons c k)) l
noncomputable def resA (P : Program) (tm : En) (h : Tr AO) (l : List ResultVar) : Option AV := ob (resL P tm h l) fun c => match c with
  | .cons v .nil => some v
  | c => some (.t c)
noncomputable def entA (P : Program) (f : FuncId) : Option (Func × Code) := match P.funcs[f]? with
  | some fn => match fn.body with
    | some c => iff' (not (fn.name == "runtime.NumGoroutine")) (some (fn, c))
    | none => none
  | none => none
noncomputable def dropM (l : List Nat) : Tr AO → Option (Tr AO) :=
  List.rec (motive := fun _ => Tr AO → Option (Tr AO)) (fun h => some h) (fun i _ ih h => match h.get i with
    | some .df => (h.del i).fc ih
    | _ => none) l
/-- the model's own maps.clone -/
noncomputable def cloneA (args : AV) (h : Tr AO) (nx : Nat) : Option (AV × Tr AO × Nat) := match args with
  | .cons (.x t c) .nil => ob (getM h c) fun q => (h.set nx (.mp q.1 q.2)).fc fun h' => fN (nx + 1) fun n => some (.x t (.m nx), h', n)
  | _ => none
/-- which temporaries of a function are read in other regions than their own -/
noncomputable def kmA (kp : Tr Nat) (f : FuncId) : Nat := Option.rec (motive := fun _ => Nat) 0 (fun n => n) (kp.get f)
/-- calls that are known -/
abbrev Kn := FuncId → AV → Tr AO → Nat → Option (AV × Tr AO × Nat)
noncomputable def calK (P : Program) (kp : Tr Nat) (ih : EvT) (f : FuncId) (args : AV) (h : Tr AO) (nx : Nat) (q : Func × Code) : Option (AV × Tr AO × Nat) :=
  iff' (Bool.and (Nat.ble args.lng q.1.ntmps) (Nat.beq (Nat.land (kmA kp f) (2 ^ args.lng - 1)) (2 ^ args.lng - 1))) (ob (ih none q.1.ntmps (kmA kp f) q.2 ⟨⟨[], args.tab 40⟩, h, nx, []⟩) fun r => match r.1 with
    | .exit _ => none
    | _ => ob (dropM r.2.ms r.2.h) fun h' => ob (resA P r.2.tm h' q.1.results.toList) fun v => some (v, h', r.2.nx))
noncomputable def calA (P : Program) (kp : Tr Nat) (mc : FuncId) (kn : Kn) (ih : EvT) : Cal := fun f args h nx =>
  Bool.rec (motive := fun _ => Option (AV × Tr AO × Nat)) (Option.rec (motive := fun _ => Option (AV × Tr AO × Nat)) (ob (entA P f) (calK P kp ih f args h nx)) (fun r => some r) (kn f args h nx)) (cloneA args h nx) (Nat.beq f mc)
noncomputable def zipT (nt : Nat) (tm : En) (ps : List Tmp) (args : AV) : Option En :=
  List.rec (motive := fun _ => En → AV → Option En) (fun tm args => match args with | .nil => some tm | _ => none)
    (fun p _ ih tm args => match args with | .cons c k => iff' (Nat.blt p nt) (ih (tm.put p c) k) | _ => none) ps tm args
noncomputable def yldA (ih : EvT) : Yld := fun id args h nx => ob (h.get id) fun ao => match ao with
  | .lp .ready pd tm nt km ps asg body => ob (zipT nt tm ps.toList args) fun tm' => ob (ih (some id) nt km asg ⟨tm', h, nx, []⟩) fun r => match r.1 with
    | .normal => ob (r.2.h.get id) fun ao' => match ao' with
      | .lp .ready pd' tm2 nt2 km2 ps2 asg2 body2 => ob (ih (some id) nt km body ⟨r.2.tm, r.2.h.set id (.lp .busy pd' tm2 nt2 km2 ps2 asg2 body2), r.2.nx, r.2.ms⟩) fun r2 => ob (r2.2.h.get id) fun ao2 => match ao2 with
        | .lp _ _ tm3 nt3 km3 ps3 asg3 body3 => match r2.1 with
          | .normal => some (.b true, r2.2.h.set id (.lp .ready none tm3 nt3 km3 ps3 asg3 body3), r2.2.nx)
          | .ret => some (.b false, r2.2.h.set id (.lp .done (some .ret) tm3 nt3 km3 ps3 asg3 body3), r2.2.nx)
          | .exit n => some (.b false, r2.2.h.set id (.lp .done (some (.exit n)) tm3 nt3 km3 ps3 asg3 body3), r2.2.nx)
        | _ => none
      | _ => none
    | _ => none
  | _ => none
/-- a range over a function -/
noncomputable def rngK (P : Program) (kp : Tr Nat) (mc : FuncId) (kn : Kn) (ih : EvT) (rd : Option Nat) (nt km : Nat) (v : AV) (id : Nat) (st : St) (tm : En) : Option (XA × St) :=
  match v with
  | .f fn caps => iff' (not (Nat.beq fn mc)) (ob (calA P kp mc kn ih fn (.cons (.fy id) caps) st.h st.nx) fun r => ob (r.2.1.get id) fun ao => match ao with
    | .lp .busy _ _ _ _ _ _ _ => none
    | .lp _ pd tm2 nt2 km2 ps2 asg2 body2 => fN r.2.2 fun n => (r.2.1.del id).fc fun h' => match pd with
      | none => some (.normal, ⟨tm, h', n, st.ms⟩)
      | some c => ih rd nt km c ⟨tm, h', n, st.ms⟩
    | _ => none)
  | _ => none
noncomputable def rngA (P : Program) (G : Nat) (kp : Tr Nat) (mc : FuncId) (kn : Kn) (ih : EvT) (rd : Option Nat) (nt km : Nat) (g : Operand) (ps : Array Tmp) (asg body : Code) (st : St) : Option (XA × St) :=
  ob (opd G st.tm g) fun v => match rd with
    | none => rngK P kp mc kn ih rd nt km v (st.nx + 1) ⟨st.tm, (st.h.set st.nx .df).set (st.nx + 1) (.lp .ready none st.tm nt km ps asg body), st.nx + 2, st.nx :: st.ms⟩ st.tm
    | some l => ob (st.h.get l) fun ao => match ao with
      | .lp _ _ _ _ _ _ _ _ => rngK P kp mc kn ih rd nt km v st.nx ⟨st.tm, st.h.set st.nx (.lp .ready none st.tm nt km ps asg body), st.nx + 1, st.ms⟩ st.tm
      | _ => none
abbrev CoT := Program → Nat → Tr Nat → FuncId → Kn → EvT → Option Nat → Nat → Nat → St → Option (XA × St)
noncomputable def regK (ops : Array Oper) (draw : Bool) : CoT := fun P G kp mc kn ih rd nt km st =>
  ob (Bool.rec (motive := fun _ => Option St) (evL ops.toList P G (calA P kp mc kn ih) (yldA ih) nt ops st) (evD P G (calA P kp mc kn ih) (yldA ih) nt ops st) draw) fun s => some (.normal, ⟨flsE km s.tm, s.h, s.nx, s.ms⟩)
noncomputable def code1 (P : Program) (G : Nat) (kp : Tr Nat) (mc : FuncId) (kn : Kn) (ih : EvT) : EvT := fun rd nt km c st =>
  Code.rec (motive := fun _ => CoT) (fun _ _ _ _ _ _ _ _ _ st => some (.normal, st)) (fun _ ops draw => regK ops draw)
    (fun x y _ _ _ _ _ _ _ ih rd nt km st => ob (ih rd nt km x st) (seqK ih rd nt km y)) (fun c x y _ _ _ G _ _ _ ih rd nt km st => ob (opd G st.tm c) (condK ih rd nt km x y st))
    (fun id c _ _ _ _ _ _ ih rd nt km st => ob (ih rd nt km c st) (blockK id)) (fun c _ _ _ _ _ _ ih rd nt km st => ob (ih rd nt km c st) (seqK ih rd nt km (.loop c)))
    (fun g ps asg body _ _ P G kp mc kn ih rd nt km st => rngA P G kp mc kn ih rd nt km g ps asg body st) (fun id _ _ _ _ _ _ _ _ _ st => some (.exit id, st)) (fun _ _ _ _ _ _ _ _ _ _ _ _ => none)
    (fun _ _ _ _ _ _ _ _ _ _ st => some (.normal, st)) (fun _ _ _ _ _ _ _ _ _ _ _ => none) (fun _ _ _ _ _ _ _ _ _ st => some (.ret, st)) (fun _ _ _ _ _ _ _ _ _ _ _ => none) c P G kp mc kn ih rd nt km st
noncomputable def evC (P : Program) (G : Nat) (kp : Tr Nat) (mc : FuncId) (kn : Kn) (n : Nat) : EvT := Nat.rec (motive := fun _ => EvT) (fun _ _ _ _ _ => none) (fun _ ih => code1 P G kp mc kn ih) n
noncomputable def evF (P : Program) (G : Nat) (kp : Tr Nat) (mc : FuncId) (kn : Kn) (n : Nat) : Cal := calA P kp mc kn (evC P G kp mc kn n)

end Go.Proofs.YthlphddehdjfjaaGreatDoor
