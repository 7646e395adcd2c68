/- A reading of closed calls that the kernel can run: loads, stores, new blocks. -/
import Derived.Test.YthlphddehdjfjaaGreatDoorEwE
namespace Go.Proofs.YthlphddehdjfjaaGreatDoor
open Go.RowKit
set_option linter.unusedVariables false
set_option linter.unusedSimpArgs false
set_option linter.unusedSectionVars false

theorem keeps_setRow (w : World) (g : Nat) (c : Array Value) : Keeps (fun z => z = g) w (w.setRow g c) :=
  ⟨rfl, rfl, rfl, by simp [World.setRow], fun k hk hs => by
    have : ¬ g = k := fun e => hs e.symm
    simp [World.setRow, Array.getElem?_modify, this]⟩

/-- the cells of a block -/
noncomputable def tbl (h : Tr AO) (id : Nat) : Option (Tr AV) := match h.get id with
  | some (.c _ _ u) => some u
  | some (.gr _ _ u) => some u
  | _ => none
/-- reading an operation's meaning -/
def ReadOk (P : Program) (G : Nat) (e : Act) (o : Oper) (ρ : Rn) (f : Tr AO → Option AV) : Prop :=
  ∀ h c, f h = some c → ∀ nx w, Lay G ρ h.get nx w → ∃ v, R ρ c (.v v) ∧ (execOp e.eval o).run P w = .ok (.value v) w
def NewOk (P : Program) (e : Act) (o : Oper) (ρ : Rn) (ao : AO) (f : Nat → AV) : Prop :=
  ∀ w nx, ρ nx = none → ∃ x C v, OR (ρ.up nx (w.heap.size, C)) C ao x ∧ R (ρ.up nx (w.heap.size, C)) (f nx) (.v v) ∧ (execOp e.eval o).run P w = .ok (.value v) (w.alloc x)
def ActOk (P : Program) (G : Nat) (e : Act) (o : Oper) (ρ : Rn) (f : Tr AO → Nat → Option (AV × Tr AO × Nat)) : Prop :=
  ∀ h nx r h' nx', f h nx = some (r, h', nx') → ∀ w, Lay G ρ h.get nx w →
    ∃ ρ' v w', R ρ' r (.v v) ∧ Lay G ρ' h'.get nx' w' ∧ Nx ρ h.get nx w ρ' h'.get nx' w' ∧ Ends P e o w v w'

theorem tbl_ok {G nx : Nat} {ρ : Rn} {h : Tr AO} {w : World} {id bk C : Nat} {u : Tr AV} (l : Lay G ρ h.get nx w) (e : tbl h id = some u) (r : ρ id = some (bk, C)) :
    ∃ cs ty, w.heap[bk]? = some (.cells cs ty) ∧ CR ρ u cs := by
  unfold tbl at e
  split at e
  · rename_i hq
    cases e
    obtain ⟨x, h1, h2⟩ := l.at hq r
    cases h2 with
    | c hs h => exact ⟨_, _, h1, h⟩
  · rename_i hq
    cases e
    obtain ⟨x, h1, h2⟩ := l.at hq r
    cases h2 with
    | gr hs h => exact ⟨_, _, h1, h⟩
  · cases e
theorem row_ok {ρ : Rn} {u : Tr AV} {cs : Array Value} (hc : CR ρ u cs) : ∀ (n o : Nat) {l : AV}, u.row n o = some l → ∃ vs, vs.length = n ∧ R ρ l (.l vs) ∧ (∀ v ∈ vs, v.oneCell' = true) ∧ ∀ (j : Nat) (v : Value), vs[j]? = some v → cs[o + j]? = some v
  | 0, o, l, h => by cases h; exact ⟨[], rfl, .nil, fun v h => (by cases h), fun j v h => (by cases h)⟩
  | n + 1, o, l, h => by
    rw [Tr.row_s] at h
    replace h := ob_eq h; obtain ⟨c, h1, h⟩ := h
    replace h := ob_eq h; obtain ⟨k, h2, h⟩ := h
    cases h
    obtain ⟨v, e1, e2, e3⟩ := hc _ _ h1
    obtain ⟨vs, f1, f2, f3, f4⟩ := row_ok hc n (o + 1) h2
    refine ⟨v :: vs, by simp [f1], .cons e3 f2, fun u hu => ?_, fun j u hu => ?_⟩
    · cases hu with
      | head => exact e2
      | tail _ hu => exact f3 u hu
    · cases j with
      | zero => cases hu; exact e1
      | succ j =>
        have := f4 j u (by simpa using hu)
        rwa [show o + (j + 1) = o + 1 + j by omega]
theorem run_row {P : Program} {w : World} {bk o : Nat} {cs : Array Value} {ty : TypeId} {vs : List Value} (hq : w.heap[bk]? = some (.cells cs ty)) (h : ∀ (j : Nat) (v : Value), vs[j]? = some v → cs[o + j]? = some v) :
    (loadCells ⟨bk, o, none⟩ vs.length).run P w = .ok ⟨vs⟩ w :=
  run_loadCells_list w _ vs fun j v hv => by rw [addr_add]; exact cell_at hq (h j v hv)

/-! ## load -/
noncomputable def opLd (P : Program) (G : Nat) (tm : En) (t : TypeId) (x : Operand) (h : Tr AO) : Option AV :=
  ob (opd G tm x) fun c => match c with
    | .p id o => ob (tbl h id) fun u => ob (agA P t) fun b => Bool.rec (motive := fun _ => Option AV) (u.get o) (ob (szA P t) fun n => ob (u.row n o) fun l => some (.a l)) b
    | _ => none
section
variable {P : Program} {G nt : Nat} {ρ : Rn} {tm : En} {e : Act}
theorem opLd_ok (ht : TR ρ tm nt e.tmps) (hg : ∀ g, g < G → ρ g = some (g, 0)) {o : Oper} {t : TypeId} {x : Operand} (ho : o.op = .load t x) : ReadOk P G e o ρ (opLd P G tm t x) := by
  intro h r hr nx w l
  replace hr := ob_eq hr; obtain ⟨c, h1, hr⟩ := hr
  have r1 := opdG ht hg h1
  have hex : (execOp e.eval o).run P w = ((Instr.loadAt t (e.eval x)).run P w).andThen fun v w' => .ok (.value v) w' := by simp [execOp, ho]
  rw [hex]
  generalize e.eval x = v at r1 ⊢
  split at hr
  · rename_i id off
    replace hr := ob_eq hr; obtain ⟨u, h2, hr⟩ := hr
    replace hr := ob_eq hr; obtain ⟨b, h3, hr⟩ := hr
    cases r1 with
    | p hp =>
      obtain ⟨cs, ty, q1, q2⟩ := tbl_ok l h2 hp
      cases b with
      | false =>
        obtain ⟨v, e1, e2, e3⟩ := q2 _ _ hr
        refine ⟨v, e3, ?_⟩
        simp [Instr.loadAt, Instr.sureAddr, loadVar, agA_ok h3, cell_at q1 e1]
      | true =>
        replace hr := ob_eq hr; obtain ⟨n, h4, hr⟩ := hr
        replace hr := ob_eq hr; obtain ⟨k, h5, hr⟩ := hr
        cases hr
        obtain ⟨vs, f1, f2, f3, f4⟩ := row_ok q2 n off h5
        refine ⟨_, .a f2, ?_⟩
        have := run_row (P := P) q1 f4
        rw [f1] at this
        simp [Instr.loadAt, Instr.sureAddr, loadVar, agA_ok h3, szA_ok h4, this]
  · cases hr

/-! ## new blocks -/
noncomputable def newO (t : TypeId) (l : AV) : Option AO := iff' l.scs (fN l.lng fun n => (l.tab 40).fc fun u => some (.c n t u))
theorem newO_ok {t : TypeId} {l : AV} {ao : AO} {vs : List Value} (h : newO t l = some ao) (hl : R ρ l (.l vs)) (C : Nat) : OR ρ C ao (.cells ⟨vs⟩ t) := by
  replace h := iff_eq h; obtain ⟨h1, h⟩ := h
  rw [fN_eq, Tr.fc_eq] at h
  cases h
  exact .c (by rw [← hl.lng]; rfl) (CR_tab hl h1 40)
noncomputable def opAll (P : Program) (t : TypeId) : Option AO := ob (zeA P t) fun z => newO t z.cells
theorem opAll_ok (ht : TR ρ tm nt e.tmps) (hg : ∀ g, g < G → ρ g = some (g, 0)) {o : Oper} {t : TypeId} {ao : AO} (ho : o.op = .alloc t) (h : opAll P t = some ao) : NewOk P e o ρ ao (fun i => .p i 0) := by
  intro w nx hn
  replace h := ob_eq h; obtain ⟨z, h1, h⟩ := h
  obtain ⟨zv, hz, hr⟩ := zeA_ok (ρ := ρ) h1
  refine ⟨.cells zv.cells t, 0, .pointer (some ⟨w.heap.size, 0, none⟩), (newO_ok h hz.cells 0).mono (Rn.le_up _ hn), .p (Rn.up_same _ _ _), ?_⟩
  simp [execOp, ho, Instr.alloc, hr, newVar, newRow]
noncomputable def opBox (G : Nat) (tm : En) (t : TypeId) (x : Operand) : Option AO := ob (opd G tm x) fun c => newO t c.cells
theorem opBox_ok (ht : TR ρ tm nt e.tmps) (hg : ∀ g, g < G → ρ g = some (g, 0)) {o : Oper} {t : TypeId} {x : Operand} {ao : AO} (ho : o.op = .box t x) (h : opBox G tm t x = some ao) : NewOk P e o ρ ao (fun i => .p i 0) := by
  intro w nx hn
  replace h := ob_eq h; obtain ⟨z, h1, h⟩ := h
  have r1 := opdG ht hg h1
  refine ⟨.cells (e.eval x).cells t, 0, .pointer (some ⟨w.heap.size, 0, none⟩), (newO_ok h r1.cells 0).mono (Rn.le_up _ hn), .p (Rn.up_same _ _ _), ?_⟩
  simp [execOp, ho, Instr.box, newVar, newRow]
/-- a row of n elements -/
noncomputable def zrA (P : Program) (el : TypeId) (n : Nat) : Option AV :=
  ob (szA P el) fun z => Bool.rec (motive := fun _ => Option AV) (ob (zeA P el) fun c => iff' (Nat.beq c.cells.lng z) (some (rpA n c.cells))) (some .nil) (Nat.beq (n * z) 0)
noncomputable def opBsl (P : Program) (G : Nat) (tm : En) (t : TypeId) (len : Nat) (ps : Array (Nat × Operand)) : Option AO :=
  match P.underlying t with
  | some (.slice el) => ob (szA P el) fun z => iff' (Nat.ble (len * z) 16777216) (ob (zrA P el len) fun l => ob (fiA G tm (fun i => some (i * z, z)) ps.toList l) fun l => newO el l)
  | _ => none
theorem zrA_ok {el : TypeId} {n z : Nat} {l : AV} (hz : szA P el = some z) (h : zrA P el n = some l) :
    ∃ vs, R ρ l (.l vs) ∧ (n * z = 0 ∧ vs = [] ∨ ¬ n * z = 0 ∧ ∃ zv : Value, (∀ w, (zeroValue el).run P w = .ok zv w) ∧ (Array.range (n * z)).map (zv.cells[· % zv.cells.size]!) = ⟨vs⟩) := by
  replace h := ob_eq h; obtain ⟨z', h1, h⟩ := h
  rw [hz] at h1; cases h1
  cases hb : Nat.beq (n * z) 0 with
  | true =>
    rw [hb] at h; cases h
    exact ⟨[], .nil, .inl ⟨Nat.eq_of_beq_eq_true hb, rfl⟩⟩
  | false =>
    rw [hb] at h
    replace h : (ob (zeA P el) fun c => iff' (Nat.beq c.cells.lng z) (some (rpA n c.cells))) = some l := h
    replace h := ob_eq h; obtain ⟨c, h2, h⟩ := h
    replace h := iff_eq h; obtain ⟨h3, h⟩ := h
    cases h
    obtain ⟨zv, hzv, hr⟩ := zeA_ok (ρ := ρ) h2
    have hne : ¬ n * z = 0 := fun e => by rw [e] at hb; exact Bool.noConfusion hb
    have hl : zv.cells.toList.length = z := by rw [hzv.cells.lng]; exact Nat.eq_of_beq_eq_true h3
    refine ⟨_, rpA_ok hzv.cells n, .inr ⟨hne, zv, hr, ?_⟩⟩
    apply Array.ext'
    have := rep_eq zv.cells.toList n
    rw [hl] at this
    exact this
theorem opBsl_ok (ht : TR ρ tm nt e.tmps) (hg : ∀ g, g < G → ρ g = some (g, 0)) {o : Oper} {t : TypeId} {len : Nat} {ps : Array (Nat × Operand)} {ao : AO} (ho : o.op = .buildSlice t len ps) (h : opBsl P G tm t len ps = some ao) : NewOk P e o ρ ao (fun i => .sl i 0 len len) := by
  intro w nx hn
  unfold opBsl at h
  split at h
  · rename_i el hu
    replace h := ob_eq h; obtain ⟨z, h1, h⟩ := h
    replace h := iff_eq h; obtain ⟨h2, h⟩ := h
    replace h := ob_eq h; obtain ⟨l, h3, h⟩ := h
    replace h := ob_eq h; obtain ⟨l', h4, h⟩ := h
    obtain ⟨vs, hv, hzr⟩ := zrA_ok (ρ := ρ) h1 h3
    obtain ⟨us, e1, e2⟩ := fiA_ok ht hg hv h4
    have hmap : (ps.map fun (i, x) => (i, e.eval x)).toList = ps.toList.map fun q => (q.1, e.eval q.2) := by simp
    have hle : ¬ len * z > 16777216 := by have := Nat.le_of_ble_eq_true h2; omega
    refine ⟨.cells ⟨us⟩ el, 0, .slice (some ⟨w.heap.size, 0, none⟩) len len, (newO_ok h e2 0).mono (Rn.le_up _ hn), .sl (Rn.up_same _ _ _) (Nat.le_refl _), ?_⟩
    have r0 : Array.range 0 = #[] := rfl
    rcases hzr with ⟨hz, rfl⟩ | ⟨hz, zv, hr, hrow⟩
    · simp only [execOp, ho, Instr.buildSlice, Sem.run_bind, run_underlying hu, Result.andThen_ok, szA_ok h1, Sem.run_ite, run_unsupported, Nat.reducePow, if_neg hle, Sem.run_pure, hz, if_pos, hmap, r0, Array.map_empty, e1, newRow, run_newObj]
      rfl
    · simp only [execOp, ho, Instr.buildSlice, Sem.run_bind, run_underlying hu, Result.andThen_ok, szA_ok h1, Sem.run_ite, run_unsupported, Nat.reducePow, if_neg hle, Sem.run_pure, if_neg hz, hr, hrow, hmap, e1, newRow, run_newObj]
      rfl
  · cases h
noncomputable def opMkm (P : Program) (t : TypeId) (r : Option Operand) : Option AO := match r with
  | none => some (.mp [] 0)
  | some _ => none
theorem opMkm_ok {o : Oper} {t : TypeId} {r : Option Operand} {ao : AO} (ho : o.op = .makeMap t r) (h : opMkm P t r = some ao) : NewOk P e o ρ ao (fun i => .m i) := by
  intro w nx hn
  unfold opMkm at h
  split at h
  · cases h
    refine ⟨.map #[] 0, 0, .map (some w.heap.size), .mp .nil, .m (Rn.up_same _ _ _), ?_⟩
    simp [execOp, ho, Instr.makeMap]
  · cases h
/-- a row of zeros; of a long one the first element alone is known -/
noncomputable def mksA (P : Program) (el : TypeId) (m : Nat) : Option AO :=
  Bool.rec (motive := fun _ => Option AO) (ob (zrA P el m) fun l => newO el l)
    (ob (szA P el) fun z => ob (zeA P el) fun c => iff' (Nat.beq c.cells.lng z) (iff' c.cells.scs (iff' (Nat.blt 0 z) (fN (m * z) fun n => (c.cells.tab 40).fc fun u => some (.c n el u))))) (Nat.blt 1000 m)
theorem mksA_ok {el : TypeId} {m z : Nat} {ao : AO} (hz : szA P el = some z) (h : mksA P el m = some ao) :
    ∃ vs, (∀ C, OR ρ C ao (.cells ⟨vs⟩ el)) ∧ (m * z = 0 ∧ vs = [] ∨ ¬ m * z = 0 ∧ ∃ zv : Value, (∀ w, (zeroValue el).run P w = .ok zv w) ∧ (Array.range (m * z)).map (zv.cells[· % zv.cells.size]!) = ⟨vs⟩) := by
  unfold mksA at h
  cases hb : Nat.blt 1000 m with
  | false =>
    rw [hb] at h
    replace h : (ob (zrA P el m) fun l => newO el l) = some ao := h
    obtain ⟨l, h1, h⟩ := ob_eq h
    obtain ⟨vs, hv, hzr⟩ := zrA_ok (ρ := ρ) hz h1
    exact ⟨vs, fun C => newO_ok h hv C, hzr⟩
  | true =>
    rw [hb] at h
    replace h : (ob (szA P el) fun z => ob (zeA P el) fun c => iff' (Nat.beq c.cells.lng z) (iff' c.cells.scs (iff' (Nat.blt 0 z) (fN (m * z) fun n => (c.cells.tab 40).fc fun u => some (AO.c n el u))))) = some ao := h
    obtain ⟨z', h1, h⟩ := ob_eq h
    rw [hz] at h1; cases h1
    obtain ⟨c, h2, h⟩ := ob_eq h
    obtain ⟨h3, h⟩ := iff_eq h
    obtain ⟨h4, h⟩ := iff_eq h
    obtain ⟨h5, h⟩ := iff_eq h
    rw [fN_eq, Tr.fc_eq] at h
    cases h
    obtain ⟨zv, hzv, hr⟩ := zeA_ok (ρ := ρ) h2
    rw [Nat.blt_eq] at hb h5
    have hl : zv.cells.toList.length = z := by rw [hzv.cells.lng]; exact Nat.eq_of_beq_eq_true h3
    have hne : ¬ m * z = 0 := Nat.ne_of_gt (Nat.mul_pos (by omega) h5)
    have hrow := rep_eq zv.cells.toList m
    rw [hl] at hrow
    refine ⟨(List.replicate m zv.cells.toList).flatten, fun C => .c ?_ ?_, .inr ⟨hne, zv, hr, Array.ext' hrow⟩⟩
    · show ((List.replicate m zv.cells.toList).flatten).length = m * z
      rw [← hrow]
      simp
    · intro j d e
      obtain ⟨v, e1, e2, e3⟩ := CR_tab hzv.cells h4 40 j d e
      refine ⟨v, ?_, e2, e3⟩
      obtain ⟨k, rfl⟩ : ∃ k, m = k + 1 := ⟨m - 1, by omega⟩
      have hj : j < zv.cells.toList.length := by
        have := (Array.getElem?_eq_some_iff.1 e1).1
        simpa using this
      rw [List.getElem?_toArray, List.replicate_succ, List.flatten_cons, List.getElem?_append_left hj]
      simpa using e1
noncomputable def opMks (P : Program) (G : Nat) (tm : En) (t : TypeId) (x y : Operand) : Option (AO × (Nat → AV)) :=
  match P.underlying t with
  | some (.slice el) => ob (opd G tm x) fun c => ob (opd G tm y) fun d => match P.info? el, c, d with
    | some i, .i _ (.ofNat n), .i _ (.ofNat m) => iff' (Bool.and (Nat.ble n m) (Bool.and (Nat.ble (i.bytes * m) 281474976710656) (Nat.blt m 9223372036854775808)))
        (ob (mksA P el m) fun a => some (a, fun id => .sl id 0 n m))
    | _, _, _ => none
  | _ => none
theorem opMks_ok (ht : TR ρ tm nt e.tmps) (hg : ∀ g, g < G → ρ g = some (g, 0)) {o : Oper} {t : TypeId} {x y : Operand} {ao : AO} {f : Nat → AV} (ho : o.op = .makeSlice t x y) (h : opMks P G tm t x y = some (ao, f)) : NewOk P e o ρ ao f := by
  intro w nx hn
  unfold opMks at h
  split at h
  · rename_i el hu
    replace h := ob_eq h; obtain ⟨c, h1, h⟩ := h
    replace h := ob_eq h; obtain ⟨d, h2, h⟩ := h
    have r1 := opdG ht hg h1
    have r2 := opdG ht hg h2
    split at h
    · rename_i i k n k' m hi
      replace h := iff_eq h; obtain ⟨h3, h⟩ := h
      replace h := ob_eq h; obtain ⟨a, h5, h⟩ := h
      cases h
      simp only [Bool.and_eq_true, Nat.blt_eq, Nat.ble_eq] at h3
      obtain ⟨b1, b2, b3⟩ := h3
      have hz : szA P el = some i.size := by simp [szA, hi]
      obtain ⟨vs, hv, hzr⟩ := mksA_ok (ρ := ρ) hz h5
      refine ⟨.cells ⟨vs⟩ el, 0, .slice (some ⟨w.heap.size, 0, none⟩) n m, (hv 0).mono (Rn.le_up _ hn), .sl (Rn.up_same _ _ _) b1, ?_⟩
      generalize hxv : e.eval x = vx at r1
      generalize hyv : e.eval y = vy at r2
      cases r1; cases r2
      have w1 : IntKind.i64.wrap (Int.ofNat n) = (n : Int) := IntWalk.i64_in _ (by rw [Int.ofNat_eq_natCast]; omega)
      have w2 : IntKind.i64.wrap (Int.ofNat m) = (m : Int) := IntWalk.i64_in _ (by rw [Int.ofNat_eq_natCast]; omega)
      have hti : ∀ w, (typeInfo el).run P w = .ok i w := fun w => by simp [typeInfo, hi]
      have n1 : ¬ ((m : Int) < 0) := by omega
      have n2 : ¬ ((n : Int) < 0) := by omega
      have n3 : ¬ ((n : Int) > m) := by omega
      have n4 : ¬ ((i.bytes : Int) * (m : Int) > 2 ^ 48) := by
        have : ((i.bytes * m : Nat) : Int) ≤ ((281474976710656 : Nat) : Int) := Int.ofNat_le.2 b2
        rw [Int.natCast_mul] at this
        omega
      have r0 : Array.range 0 = #[] := rfl
      have e0 : (Int.ofNat m).toNat = m := rfl
      have e1 : (Int.ofNat n).toNat = n := rfl
      rcases hzr with ⟨hz0, rfl⟩ | ⟨hz0, zv, hr, hrow⟩
      · simp only [execOp, ho, hxv, hyv, Instr.makeSlice, Sem.run_bind, run_underlying hu, Result.andThen_ok, asInt, asIntOf, Sem.run_pure, hti, w1, w2, n1, n2, n3, n4, decide_false, Bool.or_self, Bool.false_eq_true, if_false, run_askRoom, szA_ok hz, Int.toNat_natCast,
          Sem.run_ite, hz0, if_pos, r0, Array.map_empty, newRow, run_newObj]
        rfl
      · simp only [execOp, ho, hxv, hyv, Instr.makeSlice, Sem.run_bind, run_underlying hu, Result.andThen_ok, asInt, asIntOf, Sem.run_pure, hti, w1, w2, n1, n2, n3, n4, decide_false, Bool.or_self, Bool.false_eq_true, if_false, run_askRoom, szA_ok hz, Int.toNat_natCast,
          Sem.run_ite, if_neg hz0, hr, hrow, newRow, run_newObj]
        rfl
    · cases h
  · cases h
end

/-! ## store -/
noncomputable def stA (u : Tr AV) (l : AV) (o : Nat) : Option (Tr AV) :=
  AV.rec (motive := fun _ => Tr AV → Nat → Option (Tr AV)) (fun _ _ => none) (fun _ _ _ => none) (fun _ _ _ _ => none) (fun _ _ _ => none) (fun _ _ _ _ => none) (fun _ _ => none) (fun _ _ _ _ _ _ => none) (fun _ _ _ _ => none) (fun _ _ => none) (fun _ _ _ => none)
    (fun _ _ => none) (fun _ _ _ _ _ => none) (fun _ _ _ => none) (fun _ _ => none) (fun _ _ _ _ _ => none) (fun _ _ => none) (fun _ _ _ _ => none) (fun _ _ _ _ => none) (fun u _ => some u)
    (fun h _ _ it u o => ob (u.get o) fun _ => (u.set o h).fc fun u' => fN (o + 1) fun o' => it u' o') (fun _ _ _ _ _ => none) (fun _ _ _ _ _ _ _ => none) l u o
theorem CR.set {ρ : Rn} {u : Tr AV} {cs : Array Value} {j : Nat} {c : AV} {v : Value} (h : CR ρ u cs) (hj : j < cs.size) (hv : R ρ c (.v v)) (h1 : v.oneCell' = true) : CR ρ (u.set j c) (cs.setIfInBounds j v) := by
  intro i d e
  rw [Tr.get_set] at e
  by_cases hi : i = j
  · subst hi
    rw [if_pos rfl] at e; cases e
    exact ⟨v, by simp [hj], h1, hv⟩
  · rw [if_neg hi] at e
    obtain ⟨x, a1, a2, a3⟩ := h i d e
    exact ⟨x, by rw [Array.getElem?_setIfInBounds_ne (by omega)]; exact a1, a2, a3⟩
theorem stA_ok {ρ : Rn} : ∀ {l : AV} {u u' : Tr AV} {o : Nat} {cs : Array Value} {vs : List Value}, stA u l o = some u' → R ρ l (.l vs) → l.scs = true → CR ρ u cs → o ≤ cs.size →
    o + vs.length ≤ cs.size ∧ (∀ v ∈ vs, v.oneCell' = true) ∧ CR ρ u' (cs.toList.take o ++ vs ++ cs.toList.drop (o + vs.length)).toArray := by
  intro l
  induction l with
  | nil =>
    intro u u' o cs vs h r hs hc ho
    cases h; cases r
    exact ⟨ho, fun v hv => (by cases hv), by simpa using hc⟩
  | cons c t _ it =>
    intro u u' o cs vs h r hs hc ho
    replace h := ob_eq h; obtain ⟨q, h1, h⟩ := h
    rw [Tr.fc_eq, fN_eq] at h
    obtain ⟨a1, a2⟩ := AV.scs_cons hs
    obtain ⟨v0, b1, _, _⟩ := hc _ _ h1
    have hj : o < cs.size := (Array.getElem?_eq_some_iff.1 b1).1
    cases r with
    | cons r1 r2 =>
      rename_i v vs
      have hv := r1.one a1
      obtain ⟨d1, d2, d3⟩ := it h r2 a2 (hc.set hj r1 hv) (by simp; omega)
      refine ⟨by simp at d1 ⊢; omega, fun x hv' => ?_, ?_⟩
      · cases hv' with
        | head => exact hv
        | tail _ hv' => exact d2 x hv'
      · have e := list_seg_step cs.toList o v vs (by simp at d1 ⊢; omega)
        rw [List.length_cons, ← e]
        simpa [Array.toList_setIfInBounds] using d3
  | _ => intro u u' o cs vs h r; cases r
/-- the cells of a block, changed -/
noncomputable def setU (h : Tr AO) (id : Nat) (u' : Tr AV) : Option (Tr AO) := match h.get id with
  | some (.c n ty _) => some (h.set id (.c n ty u'))
  | some (.gr sz ty _) => some (h.set id (.gr sz ty u'))
  | _ => none
theorem setU_ok {G nx : Nat} {ρ : Rn} {h h' : Tr AO} {w : World} {id bk C : Nat} {u' : Tr AV} {cs cs' : Array Value} {ty : TypeId} (l : Lay G ρ h.get nx w) (e : setU h id u' = some h') (r : ρ id = some (bk, C))
    (hq : w.heap[bk]? = some (.cells cs ty)) (hs : cs'.size = cs.size) (hc : CR ρ u' cs') : Lay G ρ h'.get nx (w.setRow bk cs') ∧ Nx ρ h.get nx w ρ h'.get nx (w.setRow bk cs') := by
  have hq' := setRow_heap w bk cs cs' ty (0, 0) hq
  unfold setU at e
  split at e
  · rename_i n ty' u0 hid
    cases e
    obtain ⟨x, h1, h2⟩ := l.at hid r
    rw [hq] at h1; cases h1
    cases h2 with
    | c hs0 _ =>
      rw [hup_set]
      exact l.put hid r (keeps_setRow w bk cs') hq' (.c (hs.trans hs0) hc)
  · rename_i sz ty' u0 hid
    cases e
    obtain ⟨x, h1, h2⟩ := l.at hid r
    rw [hq] at h1; cases h1
    cases h2 with
    | gr hs0 _ =>
      rw [hup_set]
      exact l.put hid r (keeps_setRow w bk cs') hq' (.gr (hs.trans hs0) hc)
  · cases e
/-- cells laid over a block's -/
noncomputable def layA (h : Tr AO) (id o : Nat) (l : AV) : Option (Tr AO) :=
  iff' (Bool.and l.scs (Nat.blt 0 l.lng)) (ob (tbl h id) fun u => ob (stA u l o) fun u' => ob (setU h id u') fun h' => some (h'.fc fun h' => h'))
theorem layA_ok {P : Program} {G nx : Nat} {ρ : Rn} {h h' : Tr AO} {w : World} {id o bk C : Nat} {l : AV} {vs : List Value} (hl : Lay G ρ h.get nx w) (e : layA h id o l = some h') (hr : R ρ l (.l vs)) (r : ρ id = some (bk, C)) :
    ∃ w', Lay G ρ h'.get nx w' ∧ Nx ρ h.get nx w ρ h'.get nx w' ∧ (storeCells ⟨bk, o, none⟩ vs).run P w = .ok () w' := by
  replace e := iff_eq e; obtain ⟨h0, e⟩ := e
  replace e := ob_eq e; obtain ⟨u, h1, e⟩ := e
  replace e := ob_eq e; obtain ⟨u', h2, e⟩ := e
  replace e := ob_eq e; obtain ⟨h'', h3, e⟩ := e
  rw [Tr.fc_eq] at e; cases e
  rw [Bool.and_eq_true, Nat.blt_eq] at h0
  obtain ⟨cs, ty, q1, q2⟩ := tbl_ok hl h1 r
  have ho : o ≤ cs.size := by
    have hlen := h0.2
    cases hr with
    | nil => exact absurd hlen (by decide)
    | cons r1 r2 =>
      obtain ⟨q, g1, _⟩ := ob_eq h2
      obtain ⟨v0, b1, _, _⟩ := q2 _ _ g1
      exact Nat.le_of_lt (Array.getElem?_eq_some_iff.1 b1).1
  obtain ⟨s1, s2, s3⟩ := stA_ok h2 hr h0.1 q2 ho
  obtain ⟨a1, a2⟩ := setU_ok hl h3 r q1 (by simp; omega) s3
  refine ⟨_, a1, a2, ?_⟩
  have := run_storeCells_at P bk o ty vs 0 cs w q1 (by simpa using s1) s2
  simpa using this
noncomputable def opSt (P : Program) (G : Nat) (tm : En) (t : TypeId) (x y : Operand) (h : Tr AO) (nx : Nat) : Option (AV × Tr AO × Nat) :=
  ob (opd G tm x) fun c => ob (opd G tm y) fun d => match c with
    | .p id o => ob (szA P t) fun n => iff' (Nat.beq d.cells.lng n) (ob (layA h id o d.cells) fun h' => some (.t .nil, h', nx))
    | _ => none
section
variable {P : Program} {G nt : Nat} {ρ : Rn} {tm : En} {e : Act}
theorem opSt_ok (ht : TR ρ tm nt e.tmps) (hg : ∀ g, g < G → ρ g = some (g, 0)) {o : Oper} {t : TypeId} {x y : Operand} (ho : o.op = .store t x y) : ActOk P G e o ρ (opSt P G tm t x y) := by
  intro h nx r h' nx' hr w l
  replace hr := ob_eq hr; obtain ⟨c, h1, hr⟩ := hr
  replace hr := ob_eq hr; obtain ⟨d, h2, hr⟩ := hr
  have r1 := opdG ht hg h1
  have r2 := opdG ht hg h2
  split at hr
  · replace hr := ob_eq hr; obtain ⟨n, h3, hr⟩ := hr
    replace hr := iff_eq hr; obtain ⟨h4, hr⟩ := hr
    replace hr := ob_eq hr; obtain ⟨h'', h5, hr⟩ := hr
    cases hr
    generalize hxv : e.eval x = vx at r1
    cases r1 with
    | p hp =>
      obtain ⟨w', a1, a2, a3⟩ := layA_ok (P := P) l h5 r2.cells hp
      refine ⟨ρ, undef, w', .t .nil, a1, a2, .inr ⟨rfl, ?_⟩⟩
      have hsz : (e.eval y).cells.size = n := by rw [← Array.length_toList, r2.cells.lng]; exact Nat.eq_of_beq_eq_true h4
      simp [execOp, ho, hxv, Instr.storeAt, Instr.sureAddr, storeVar, szA_ok h3, hsz, a3]
  · cases hr
end

end Go.Proofs.YthlphddehdjfjaaGreatDoor
