/- A reading of closed calls that the kernel can run: what is built, and new blocks. -/
import Derived.Test.YthlphddehdjfjaaGreatDoorEwD
namespace Go.Proofs.YthlphddehdjfjaaGreatDoor
open Go.RowKit
set_option linter.unusedVariables false
set_option linter.unusedSimpArgs false
set_option linter.unusedSectionVars false

/-! ## cells laid over cells -/
noncomputable def AV.spl (l : AV) (o : Nat) (k : AV) : Option AV := ob (l.tk o) fun q => some (q.app (k.app (l.dr (o + k.lng))))
theorem R.spl {ρ : Rn} {l k r : AV} {o : Nat} {vs us : List Value} (hl : R ρ l (.l vs)) (hk : R ρ k (.l us)) (h : l.spl o k = some r) : R ρ r (.l (vs.take o ++ (us ++ vs.drop (o + us.length)))) := by
  replace h := ob_eq h; obtain ⟨q, h1, h⟩ := h
  cases h
  rw [hk.lng]
  exact (hl.tk o h1).app (hk.app (hl.dr _))
theorem lay_over (o : Nat) : ∀ (us : List Value) (k : Nat) (cs : Array Value), o + k + us.length ≤ cs.size →
    ((us.zipIdx k).foldl (fun (cs : Array Value) (x : Value × Nat) => cs.setIfInBounds (o + x.2) x.1) cs).toList = cs.toList.take (o + k) ++ (us ++ cs.toList.drop (o + k + us.length))
  | [], k, cs, h => by simp
  | u :: us, k, cs, h => by
    simp only [List.zipIdx_cons, List.foldl_cons, List.length_cons] at h ⊢
    rw [lay_over o us (k + 1) _ (by simp; omega)]
    have hlt : o + k < cs.toList.length := by simp; omega
    simp only [Array.toList_setIfInBounds]
    rw [List.drop_set_of_lt (by omega), show o + (k + 1) = (o + k) + 1 by omega, List.take_add_one, List.take_set_of_le (Nat.le_refl _), List.getElem?_set_self hlt]
    simp [List.append_assoc]
    congr 1
    omega
noncomputable def fiA (G : Nat) (tm : En) (pl : Nat → Option (Nat × Nat)) (ps : List (Nat × Operand)) : AV → Option AV :=
  List.rec (motive := fun _ => AV → Option AV) (fun l => some l)
    (fun q _ ih l => ob (opd G tm q.2) fun c => ob (pl q.1) fun d => iff' (Nat.beq c.cells.lng d.2) (iff' (Nat.ble (d.1 + c.cells.lng) l.lng) (ob (l.spl d.1 c.cells) ih))) ps
/-- n copies -/
noncomputable def rpA (n : Nat) (z : AV) : AV := Nat.rec (motive := fun _ => AV) .nil (fun _ ih => z.app ih) n
theorem rpA_ok {ρ : Rn} {z : AV} {zs : List Value} (h : R ρ z (.l zs)) : ∀ n, R ρ (rpA n z) (.l (List.replicate n zs).flatten)
  | 0 => .nil
  | n + 1 => by
    rw [List.replicate_succ, List.flatten_cons]
    exact h.app (rpA_ok h n)
theorem rep_eq (zs : List Value) (n : Nat) : ((Array.range (n * zs.length)).map ((⟨zs⟩ : Array Value)[· % (⟨zs⟩ : Array Value).size]!)).toList = (List.replicate n zs).flatten := by
  simp only [Array.toList_map, Array.toList_range]
  show (List.range (n * zs.length)).map (fun i => (⟨zs⟩ : Array Value)[i % zs.length]!) = _
  induction n with
  | zero => simp
  | succ n ih =>
    rw [Nat.succ_mul, Nat.add_comm, List.range_add, List.map_append, List.map_map, List.replicate_succ, List.flatten_cons, ← ih]
    congr 1
    · apply List.ext_getElem?
      intro i
      simp only [List.getElem?_map]
      by_cases hi : i < zs.length
      · rw [List.getElem?_range hi]
        simp [Nat.mod_eq_of_lt hi, hi]
      · rw [List.getElem?_eq_none (by simpa using hi), List.getElem?_eq_none (by simpa using hi)]; rfl
    · apply List.map_congr_left
      intro i _
      simp
theorem CR_tab {ρ : Rn} {l : AV} {vs : List Value} (h : R ρ l (.l vs)) (hs : l.scs = true) (f : Nat) : CR ρ (l.tab f) ⟨vs⟩ := by
  intro j c e
  obtain ⟨v, h1, h2⟩ := h.nth (tab_get f l j c e)
  refine ⟨v, by simpa using h1, ?_, h2⟩
  have : ∀ (l : AV) (j : Nat), l.scs = true → l.nth j = some c → c.sc = true := fun l => by
    induction l with
    | cons h t _ it =>
      intro j hs e
      obtain ⟨a1, a2⟩ := AV.scs_cons hs
      cases j with
      | zero => cases e; exact a1
      | succ j => exact it j a2 e
    | _ => intro j hs e; cases e
  exact h2.one (this l j hs (tab_get f l j c e))

section
variable {P : Program} {G nt : Nat} {ρ : Rn} {tm : En} {e : Act}
theorem fiA_ok (ht : TR ρ tm nt e.tmps) (hg : ∀ g, g < G → ρ g = some (g, 0)) {pl : Nat → Option (Nat × Nat)} : ∀ {ps : List (Nat × Operand)} {l r : AV} {vs : List Value}, R ρ l (.l vs) → fiA G tm pl ps l = some r →
    ∃ us, Instr.fill pl ⟨vs⟩ (ps.map fun q => (q.1, e.eval q.2)) = some ⟨us⟩ ∧ R ρ r (.l us)
  | [], l, r, vs, hl, h => by cases h; exact ⟨vs, rfl, hl⟩
  | q :: ps, l, r, vs, hl, h => by
    replace h := ob_eq h; obtain ⟨c, h1, h⟩ := h
    replace h := ob_eq h; obtain ⟨d, h2, h⟩ := h
    replace h := iff_eq h; obtain ⟨h3, h⟩ := h
    replace h := iff_eq h; obtain ⟨h4, h⟩ := h
    replace h := ob_eq h; obtain ⟨k, h5, h⟩ := h
    have hc := (opdG ht hg h1).cells
    have hsp := hl.spl hc h5
    obtain ⟨us, e1, e2⟩ := fiA_ok ht hg hsp h
    refine ⟨us, ?_, e2⟩
    have s1 := hc.lng
    have s2 := hl.lng
    have n1 : (e.eval q.2).cells.size = d.2 := by rw [← Array.length_toList, s1]; exact Nat.eq_of_beq_eq_true h3
    have n2 : d.1 + (e.eval q.2).cells.size ≤ vs.length := by rw [← Array.length_toList, s1, s2]; exact Nat.le_of_ble_eq_true h4
    obtain ⟨d1, d2⟩ := d
    dsimp only at n1 n2
    simp only [List.map_cons, Instr.fill, h2]
    rw [if_neg (by simp [n1]; rw [← n1]; exact n2)]
    have := lay_over d1 (e.eval q.2).cells.toList 0 ⟨vs⟩ (by simpa using n2)
    rw [show ((e.eval q.2).cells.zipIdx.foldl (fun cs x => cs.setIfInBounds (d1 + x.2) x.1) (⟨vs⟩ : Array Value)) = ⟨vs.take d1 ++ ((e.eval q.2).cells.toList ++ vs.drop (d1 + (e.eval q.2).cells.toList.length))⟩ from ?_]
    · exact e1
    · apply Array.ext'
      rw [← Array.foldl_toList, Array.toList_zipIdx]
      simpa using this

/-! ## structs and arrays that are built -/
noncomputable def alS (P : Program) (fs : List Field) : Bool := List.rec (motive := fun _ => Bool) true (fun f _ ih => Option.rec (motive := fun _ => Bool) false (fun _ => ih) (szA P f.type)) fs
theorem run_places (fs : List Field) (h : alS P fs = true) (w : World) : (fs.mapM fun f => do pure (f.offset, ← sizeOf f.type) : Sem (List (Nat × Nat))).run P w = .ok (fs.map fun f => (f.offset, (szA P f.type).getD 0)) w := by
  induction fs with
  | nil => rfl
  | cons f fs ih =>
    change Option.rec (motive := fun _ => Bool) false (fun _ => alS P fs) (szA P f.type) = true at h
    cases hz : szA P f.type with
    | none => rw [hz] at h; cases h
    | some n =>
      rw [hz] at h
      simp only [List.mapM_cons, Sem.run_bind, szA_ok hz, Result.andThen_ok, ih h, Sem.run_pure, List.map_cons, hz, Option.getD_some]
noncomputable def plA (P : Program) (fs : Array Field) (i : Nat) : Option (Nat × Nat) := match fs[i]? with
  | some f => ob (szA P f.type) fun n => some (f.offset, n)
  | none => none
noncomputable def opBld (P : Program) (G : Nat) (tm : En) (t : TypeId) (ps : Array (Nat × Operand)) : Option AV :=
  ob (zeA P t) fun z => match P.underlying t with
    | some (.struct fs) => iff' (alS P fs.toList) (ob (fiA G tm (plA P fs) ps.toList z.cells) fun l => some (.a l))
    | some (.array _ el) => ob (szA P el) fun n => ob (fiA G tm (fun i => some (i * n, n)) ps.toList z.cells) fun l => some (.a l)
    | _ => none
theorem opBld_ok (ht : TR ρ tm nt e.tmps) (hg : ∀ g, g < G → ρ g = some (g, 0)) {t : TypeId} {ps : Array (Nat × Operand)} {r : AV} (h : opBld P G tm t ps = some r) :
    ∃ z, R ρ r (.v z) ∧ ∀ w, (Instr.build t (ps.map fun (i, x) => (i, e.eval x))).run P w = .ok z w := by
  replace h := ob_eq h; obtain ⟨z, h1, h⟩ := h
  obtain ⟨zv, hz, hzr⟩ := zeA_ok (ρ := ρ) h1
  have hmap : (ps.map fun (i, x) => (i, e.eval x)).toList = ps.toList.map fun q => (q.1, e.eval q.2) := by simp
  split at h
  · rename_i fs hu
    replace h := iff_eq h; obtain ⟨h2, h⟩ := h
    replace h := ob_eq h; obtain ⟨l, h3, h⟩ := h
    cases h
    obtain ⟨us, e1, e2⟩ := fiA_ok ht hg hz.cells h3
    refine ⟨_, .a e2, fun w => ?_⟩
    have hpl : ∀ w, (fs.mapM fun f => do pure (f.offset, ← sizeOf f.type) : Sem (Array (Nat × Nat))).run P w = .ok (fs.map fun f => (f.offset, (szA P f.type).getD 0)) w := fun w => by
      rw [Array.mapM_eq_mapM_toList]
      simp only [Sem.run_map, run_places fs.toList h2 w, Result.andThen_ok]
      congr 1
      apply Array.ext'
      simp
    have hp : (fun i => (fs.map fun f => (f.offset, (szA P f.type).getD 0))[i]?) = plA P fs := by
      funext i
      unfold plA
      cases hf : fs[i]? with
      | none => simp [hf]
      | some f =>
        have : ∃ n, szA P f.type = some n := by
          have hm : f ∈ fs.toList := Array.mem_toList_iff.2 (Array.mem_of_getElem? hf)
          generalize fs.toList = L at h2 hm
          induction L with
          | nil => cases hm
          | cons g L ih =>
            change Option.rec (motive := fun _ => Bool) false (fun _ => alS P L) (szA P g.type) = true at h2
            cases hz : szA P g.type with
            | none => rw [hz] at h2; cases h2
            | some n =>
              rw [hz] at h2
              cases hm with
              | head => exact ⟨n, hz⟩
              | tail _ hm => exact ih h2 hm
        obtain ⟨n, hn⟩ := this
        simp [hf, hn, ob]
    simp only [Instr.build, Sem.run_bind, hzr, Result.andThen_ok, run_underlying hu, hpl, hp, hmap, e1, Sem.run_pure]
  · rename_i el hu
    replace h := ob_eq h; obtain ⟨n, h2, h⟩ := h
    replace h := ob_eq h; obtain ⟨l, h3, h⟩ := h
    cases h
    obtain ⟨us, e1, e2⟩ := fiA_ok ht hg hz.cells h3
    refine ⟨_, .a e2, fun w => ?_⟩
    simp only [Instr.build, Sem.run_bind, hzr, Result.andThen_ok, run_underlying hu, szA_ok h2, hmap, e1, Sem.run_pure]
  · cases h

/-! ## some that hand their operand on -/
noncomputable def opNil (G : Nat) (tm : En) (x : Operand) : Option AV :=
  ob (opd G tm x) fun c => match c with
    | .p id o => some (.p id o)
    | .f fn l => some (.f fn l)
    | .fy id => some (.fy id)
    | .fb fn l k => some (.fb fn l k)
    | .x t v => some (.x t v)
    | _ => none
theorem opNil_ok (ht : TR ρ tm nt e.tmps) (hg : ∀ g, g < G → ρ g = some (g, 0)) {o : Oper} {x : Operand} {r : AV} (ho : o.op = .nilCheck x) (h : opNil G tm x = some r) : Pure' P e o ρ r := by
  replace h := ob_eq h; obtain ⟨c, h1, h⟩ := h
  have r1 := opdG ht hg h1
  refine ⟨e.eval x, ?_, fun w => ?_⟩
  · split at h <;> first | (cases h; exact r1) | cases h
  · simp only [execOp, ho]
    generalize e.eval x = v at r1 ⊢
    split at h <;> first
      | (cases h; cases r1; rfl)
      | cases h
noncomputable def opCnv (P : Program) (G : Nat) (tm : En) (s t : TypeId) (x : Operand) : Option AV :=
  ob (opd G tm x) fun c => match P.underlying s, P.underlying t, c with
    | some _, some (.int k), .i _ n => Bool.rec (motive := fun _ => Option AV) (fI (k.wrap n) fun m => some (.i k m)) (some (.i k n)) (inK k n)
    | some .string, some .string, .s b => some (.s b)
    | _, _, _ => none
theorem opCnv_ok (ht : TR ρ tm nt e.tmps) (hg : ∀ g, g < G → ρ g = some (g, 0)) {s t : TypeId} {x : Operand} {r : AV} (h : opCnv P G tm s t x = some r) : ∃ z, R ρ r (.v z) ∧ ∀ w, (convert s t (e.eval x)).run P w = .ok z w := by
  replace h := ob_eq h; obtain ⟨c, h1, h⟩ := h
  have r1 := opdG ht hg h1
  generalize e.eval x = v at r1 ⊢
  split at h
  · rename_i d k _ n hs hu
    have hr : ∀ (k' : IntKind) w, (convert s t (.int k' n)).run P w = .ok (.int k (k.wrap n)) w := fun k' w => by
      simp [convert, run_underlying hs, run_underlying hu, Conv.intToInt]
    cases r1
    cases hb : inK k n with
    | false =>
      rw [hb] at h
      change (fI (k.wrap n) fun m => some (AV.i k m)) = some r at h
      rw [fI_eq] at h; cases h
      exact ⟨_, .i _ _, hr _⟩
    | true =>
      rw [hb] at h; cases h
      rw [inK_ok hb] at hr
      exact ⟨_, .i _ _, hr _⟩
  · rename_i b hs hu
    cases h
    cases r1 with
    | s b => exact ⟨_, .s _, fun w => by simp [convert, run_underlying hs, run_underlying hu]⟩
  · cases h
noncomputable def opUna (P : Program) (G : Nat) (tm : En) (op : UnOp) (x : Operand) : Option AV :=
  ob (opd G tm x) fun c => match op, c with
    | .not, .b v => fB (not v) fun z => some (.b z)
    | op, c => ob (toS c) fun v => ob (runS P (Op.unary op v)) ofS
theorem opUna_ok (ht : TR ρ tm nt e.tmps) (hg : ∀ g, g < G → ρ g = some (g, 0)) {op : UnOp} {x : Operand} {r : AV} (h : opUna P G tm op x = some r) : ∃ z, R ρ r (.v z) ∧ ∀ w, (Op.unary op (e.eval x)).run P w = .ok z w := by
  replace h := ob_eq h; obtain ⟨c, h1, h⟩ := h
  have r1 := opdG ht hg h1
  split at h
  · rw [fB_eq] at h; cases h
    generalize e.eval x = v at r1 ⊢
    cases r1
    exact ⟨_, .b _, fun w => rfl⟩
  · replace h := ob_eq h; obtain ⟨v, h2, h⟩ := h
    replace h := ob_eq h; obtain ⟨z, h3, h⟩ := h
    rw [toS_ok h2 r1]
    exact ⟨z, (ofS_ok h).1, runS_ok h3⟩
noncomputable def ncT (P : Program) (t : TypeId) : Bool := match P.underlying t with
  | some (.interface _) => false
  | some _ => true
  | none => false
noncomputable def opMki (P : Program) (G : Nat) (tm : En) (t : TypeId) (x : Operand) : Option AV := ob (opd G tm x) fun c => iff' (ncT P t) (some (.x t c))
theorem opMki_ok (ht : TR ρ tm nt e.tmps) (hg : ∀ g, g < G → ρ g = some (g, 0)) {t : TypeId} {x : Operand} {r : AV} (h : opMki P G tm t x = some r) : ∃ z, R ρ r (.v z) ∧ ∀ w, (Instr.makeInterface t (e.eval x)).run P w = .ok z w := by
  replace h := ob_eq h; obtain ⟨c, h1, h⟩ := h
  replace h := iff_eq h; obtain ⟨h2, h⟩ := h
  cases h
  refine ⟨_, .x (opdG ht hg h1), fun w => run_makeInterface w t _ ?_⟩
  unfold Program.concrete
  unfold ncT at h2
  split at h2 <;> simp_all
/-- a list of operands -/
noncomputable def opsA (G : Nat) (tm : En) (l : List Operand) : Option AV := List.rec (motive := fun _ => Option AV) (some .nil) (fun x _ ih => ob (opd G tm x) fun c => ob ih fun k => some (.cons c k)) l
theorem opsA_ok (ht : TR ρ tm nt e.tmps) (hg : ∀ g, g < G → ρ g = some (g, 0)) : ∀ {l : List Operand} {r : AV}, opsA G tm l = some r → R ρ r (.l (l.map e.eval))
  | [], r, h => by cases h; exact .nil
  | x :: l, r, h => by
    replace h := ob_eq h; obtain ⟨c, h1, h⟩ := h
    replace h := ob_eq h; obtain ⟨k, h2, h⟩ := h
    cases h
    exact .cons (opdG ht hg h1) (opsA_ok ht hg h2)
noncomputable def opMkf (G : Nat) (tm : En) (fn : Fn) (first caps : Array Operand) : Option AV :=
  match fn with
  | .func f => ob (opsA G tm first.toList) fun k => ob (opsA G tm caps.toList) fun l => some (match k with | .nil => .f f l | k => .fb f k l)
  | _ => none
theorem opMkf_ok (ht : TR ρ tm nt e.tmps) (hg : ∀ g, g < G → ρ g = some (g, 0)) {fn : Fn} {first caps : Array Operand} {r : AV} (h : opMkf G tm fn first caps = some r) : ∃ z, R ρ r (.v z) ∧ ∀ w, (Instr.makeFunc fn (first.map e.eval) (caps.map e.eval)).run P w = .ok z w := by
  unfold opMkf at h
  split at h
  · rename_i f
    replace h := ob_eq h; obtain ⟨k, h0, h⟩ := h
    replace h := ob_eq h; obtain ⟨l, h1, h⟩ := h
    cases h
    have r0 := opsA_ok ht hg h0
    have r1 := opsA_ok ht hg h1
    refine ⟨.func (.func f) ⟨first.toList.map e.eval⟩ ⟨caps.toList.map e.eval⟩, ?_, fun w => ?_⟩
    · split
      · generalize first.toList.map e.eval = z at r0
        cases r0
        exact .f r1
      · exact .fb r0 r1
    · rw [show caps.map e.eval = ⟨caps.toList.map e.eval⟩ from Array.ext' (by simp), show first.map e.eval = ⟨first.toList.map e.eval⟩ from Array.ext' (by simp)]
      rfl
  · cases h
/-- a type assertion to a type that is no interface -/
noncomputable def tasF (P : Program) (t : TypeId) (ok : Bool) : Option AV := Bool.rec (motive := fun _ => Option AV) none (ob (zeA P t) fun z => some (.t (.cons z (.cons (.b false) .nil)))) ok
noncomputable def opTas (P : Program) (G : Nat) (tm : En) (x : Operand) (t : TypeId) (ok : Bool) : Option AV :=
  iff' (ncT P t) (ob (opd G tm x) fun c => match c with
    | .x u v => Bool.rec (motive := fun _ => Option AV) (tasF P t ok) (some (Bool.rec (motive := fun _ => AV) v (.t (.cons v (.cons (.b true) .nil))) ok)) (Nat.beq u t)
    | .nx => tasF P t ok
    | _ => none)
theorem opTas_ok (ht : TR ρ tm nt e.tmps) (hg : ∀ g, g < G → ρ g = some (g, 0)) {x : Operand} {xt t : TypeId} {ok : Bool} {r : AV} (h : opTas P G tm x t ok = some r) : ∃ z, R ρ r (.v z) ∧ ∀ w, (Instr.typeAssert (e.eval x) xt t ok).run P w = .ok z w := by
  replace h := iff_eq h; obtain ⟨h2, h⟩ := h
  replace h := ob_eq h; obtain ⟨c, h1, h⟩ := h
  have r1 := opdG ht hg h1
  generalize e.eval x = v at r1 ⊢
  have hd : ∃ d, P.underlying t = some d ∧ ∀ ms, d ≠ .interface ms := by
    unfold ncT at h2
    split at h2
    · cases h2
    · rename_i d hn hd; exact ⟨d, hd, fun ms e => hn ms e⟩
    · cases h2
  obtain ⟨d, hu, hni⟩ := hd
  have fl : ∀ (dyn : Option TypeId), tasF P t ok = some r → ∃ z, R ρ r (.v z) ∧ ∀ w, ((if ok = true then (do pure (.tuple #[← zeroValue t, .bool false])) else runtimePanic (.typeAssertion (some xt) dyn t "")) : Sem Value).run P w = .ok z w := fun dyn hf => by
    cases ok with
    | false => cases hf
    | true =>
      replace hf : (ob (zeA P t) fun z => some (AV.t (.cons z (.cons (.b false) .nil)))) = some r := hf
      replace hf := ob_eq hf; obtain ⟨z, h3, hf⟩ := hf
      cases hf
      obtain ⟨zv, hz, hzr⟩ := zeA_ok (ρ := ρ) h3
      exact ⟨_, .t (.cons hz (.cons (.b _) .nil)), fun w => by simp [hzr]⟩
  split at h
  · cases r1 with
    | x hv =>
      rename_i u c w0
      cases hb : Nat.beq u t with
      | false =>
        rw [hb] at h
        have hne : u ≠ t := fun e => by subst e; simp at hb
        obtain ⟨z, e1, e2⟩ := fl (some u) h
        refine ⟨z, e1, fun w => ?_⟩
        have := e2 w
        cases d <;> first
          | exact absurd rfl (hni _)
          | (simp only [Instr.typeAssert, Sem.run_bind, run_underlying hu, Result.andThen_ok, if_neg hne]; exact this)
      | true =>
        rw [hb] at h
        obtain rfl : u = t := Nat.eq_of_beq_eq_true hb
        cases h
        refine ⟨if ok then .tuple #[w0, .bool true] else w0, ?_, fun w => ?_⟩
        · cases ok with
          | false => exact hv
          | true => exact .t (.cons hv (.cons (.b _) .nil))
        · cases d <;> first
            | exact absurd rfl (hni _)
            | simp [Instr.typeAssert, run_underlying hu]
  · cases r1 with
    | nx =>
      obtain ⟨z, e1, e2⟩ := fl none h
      refine ⟨z, e1, fun w => ?_⟩
      have := e2 w
      cases d <;> first
        | exact absurd rfl (hni _)
        | (simp only [Instr.typeAssert, Sem.run_bind, run_underlying hu, Result.andThen_ok]; exact this)
  · cases h
end

end Go.Proofs.YthlphddehdjfjaaGreatDoor
