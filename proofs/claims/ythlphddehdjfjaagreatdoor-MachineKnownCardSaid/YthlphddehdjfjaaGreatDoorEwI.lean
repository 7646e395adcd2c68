/- A reading of closed calls that the kernel can run: more builtins, iterators. -/
import Derived.Test.YthlphddehdjfjaaGreatDoorEwH
namespace Go.Proofs.YthlphddehdjfjaaGreatDoor
open Go.RowKit
set_option linter.unusedVariables false
set_option linter.unusedSimpArgs false
set_option linter.unusedSectionVars false

section
variable {P : Program} {G nt : Nat} {ρ : Rn} {tm : En} {e : Act}

/-! ## len, min, max -/
noncomputable def opLeP (P : Program) (G : Nat) (tm : En) (ts : Array TypeId) (x : Operand) : Option AV :=
  match ts.toList with
  | [t] => ob (opd G tm x) fun c => match P.underlying t, c with
    | some (.slice _), .sl _ _ n _ => some (.i .i64 (.ofNat n))
    | some (.slice _), .gs _ n => some (.i .i64 (.ofNat n))
    | some (.slice _), .ns => some (.i .i64 (.ofNat 0))
    | some .string, .s b => fN b.size fun n => some (.i .i64 (.ofNat n))
    | _, _ => none
  | _ => none
theorem opLeP_ok (ht : TR ρ tm nt e.tmps) (hg : ∀ g, g < G → ρ g = some (g, 0)) {o : Oper} {ts : Array TypeId} {x : Operand} {r : AV} (ho : o.op = .call ⟨.builtin .len, #[x], ts⟩) (h : opLeP P G tm ts x = some r) : Pure' P e o ρ r := by
  obtain ⟨cs0, hex⟩ := exec_builtin ho e.eval
  have hrun : ∀ v w, (Builtin.len_ ts o.type #[e.eval x]).run P w = .ok v w → (execOp e.eval o).run P w = .ok (.value v) w := fun v w hv => by
    rw [hex, show (#[x] : Array Operand).map e.eval = #[e.eval x] by simp]
    simp [builtin, hv]
  unfold opLeP at h
  split at h
  · rename_i t hts
    have hts' : ts = #[t] := Array.ext' hts
    subst hts'
    replace h := ob_eq h; obtain ⟨c, h1, h⟩ := h
    have r1 := opdG ht hg h1
    generalize e.eval x = v at r1 hrun
    split at h
    · rename_i hu
      cases h; cases r1
      exact ⟨_, .i _ _, fun w => hrun _ w (by simp [Builtin.len_, run_underlying hu, goInt])⟩
    · rename_i hu
      cases h; cases r1
      exact ⟨_, .i _ _, fun w => hrun _ w (by simp [Builtin.len_, run_underlying hu, goInt])⟩
    · rename_i hu
      cases h; cases r1
      exact ⟨_, .i _ _, fun w => hrun _ w (by simp [Builtin.len_, run_underlying hu, goInt])⟩
    · rename_i hu
      rw [fN_eq] at h
      cases h; cases r1
      exact ⟨_, .i _ _, fun w => hrun _ w (by simp [Builtin.len_, run_underlying hu, goInt])⟩
    · cases h
  · cases h
noncomputable def opLeM (P : Program) (G : Nat) (tm : En) (ts : Array TypeId) (x : Operand) (h : Tr AO) : Option AV :=
  match ts.toList with
  | [t] => ob (opd G tm x) fun c => match P.underlying t with
    | some (.map _ _) => ob (getM h c) fun q => fN q.1.length fun n => some (.i .i64 (.ofNat n))
    | _ => none
  | _ => none
theorem MR.len {es : List ME} {ms : List MapEntry} (h : MR ρ es ms) : ms.length = es.length := by
  induction h with
  | nil => rfl
  | cons _ _ _ _ ih => simp [ih]
theorem opLeM_ok (ht : TR ρ tm nt e.tmps) (hg : ∀ g, g < G → ρ g = some (g, 0)) {o : Oper} {ts : Array TypeId} {x : Operand} (ho : o.op = .call ⟨.builtin .len, #[x], ts⟩) : ReadOk P G e o ρ (opLeM P G tm ts x) := by
  intro h r hr nx w l
  obtain ⟨cs0, hex⟩ := exec_builtin ho e.eval
  have hrun : ∀ v w, (Builtin.len_ ts o.type #[e.eval x]).run P w = .ok v w → (execOp e.eval o).run P w = .ok (.value v) w := fun v w hv => by
    rw [hex, show (#[x] : Array Operand).map e.eval = #[e.eval x] by simp]
    simp [builtin, hv]
  unfold opLeM at hr
  split at hr
  · rename_i t hts
    have hts' : ts = #[t] := Array.ext' hts
    subst hts'
    replace hr := ob_eq hr; obtain ⟨c, h1, hr⟩ := hr
    have r1 := opdG ht hg h1
    split at hr
    · rename_i hu
      replace hr := ob_eq hr; obtain ⟨q, h2, hr⟩ := hr
      rw [fN_eq] at hr
      obtain ⟨es, clock⟩ := q
      obtain ⟨id, bk, C, ms, rfl, e1, a1, a2, a3, a4⟩ := getM_ok l h2 r1
      cases hr
      refine ⟨_, .i _ _, hrun _ w ?_⟩
      have := a4.len
      simp at this
      rw [e1]
      simp [Builtin.len_, run_underlying hu, run_getM a3, goInt, this]
    · cases hr
  · cases hr
noncomputable def opMm (P : Program) (G : Nat) (tm : En) (f : Value → Value → Sem Value) (x y : Operand) : Option AV :=
  ob (opd G tm x) fun c => ob (opd G tm y) fun d => ob (toS c) fun v => ob (toS d) fun u => ob (runS P (f v u)) ofS
theorem opMm_ok (ht : TR ρ tm nt e.tmps) (hg : ∀ g, g < G → ρ g = some (g, 0)) {f : Value → Value → Sem Value} {x y : Operand} {r : AV} (h : opMm P G tm f x y = some r) : ∃ z, R ρ r (.v z) ∧ ∀ w, (f (e.eval x) (e.eval y)).run P w = .ok z w := by
  replace h := ob_eq h; obtain ⟨c, h1, h⟩ := h
  replace h := ob_eq h; obtain ⟨d, h2, h⟩ := h
  replace h := ob_eq h; obtain ⟨v, h3, h⟩ := h
  replace h := ob_eq h; obtain ⟨u, h4, h⟩ := h
  replace h := ob_eq h; obtain ⟨z, h5, h⟩ := h
  rw [toS_ok h3 (opdG ht hg h1), toS_ok h4 (opdG ht hg h2)]
  exact ⟨z, (ofS_ok h).1, runS_ok h5⟩
theorem opMin_ok (ht : TR ρ tm nt e.tmps) (hg : ∀ g, g < G → ρ g = some (g, 0)) {o : Oper} {ts : Array TypeId} {x y : Operand} {r : AV} (ho : o.op = .call ⟨.builtin .min, #[x, y], ts⟩) (h : opMm P G tm Builtin.min2 x y = some r) : Pure' P e o ρ r := by
  obtain ⟨cs0, hex⟩ := exec_builtin ho e.eval
  obtain ⟨z, h1, h2⟩ := opMm_ok ht hg h
  refine ⟨z, h1, fun w => ?_⟩
  rw [hex, show (#[x, y] : Array Operand).map e.eval = #[e.eval x, e.eval y] by simp]
  simp [builtin, Builtin.min_, h2]
theorem opMax_ok (ht : TR ρ tm nt e.tmps) (hg : ∀ g, g < G → ρ g = some (g, 0)) {o : Oper} {ts : Array TypeId} {x y : Operand} {r : AV} (ho : o.op = .call ⟨.builtin .max, #[x, y], ts⟩) (h : opMm P G tm Builtin.max2 x y = some r) : Pure' P e o ρ r := by
  obtain ⟨cs0, hex⟩ := exec_builtin ho e.eval
  obtain ⟨z, h1, h2⟩ := opMm_ok ht hg h
  refine ⟨z, h1, fun w => ?_⟩
  rw [hex, show (#[x, y] : Array Operand).map e.eval = #[e.eval x, e.eval y] by simp]
  simp [builtin, Builtin.max_, h2]

/-! ## delete, copy, clear -/
noncomputable def opDe (P : Program) (G : Nat) (tm : En) (ts : Array TypeId) (x y : Operand) (h : Tr AO) (nx : Nat) : Option (AV × Tr AO × Nat) :=
  match ts.toList with
  | t :: _ => match P.underlying t with
    | some (.map kt _) => iff' (udA P kt) (ob (opd G tm x) fun c => ob (opd G tm y) fun d => ob (toV d) fun k => ob (getM h c) fun q =>
      ob (runS P (Instr.checkKey q.1.isEmpty 10000 kt k)) fun _ => ob (fnd P kt k q.1 0) fun r => match c with
        | .m id => some (.t .nil, h.set id (.mp (match r with | some p => q.1.eraseIdx p.1 | none => q.1) q.2), nx)
        | _ => none)
    | _ => none
  | _ => none
theorem opDe_ok (ht : TR ρ tm nt e.tmps) (hg : ∀ g, g < G → ρ g = some (g, 0)) {o : Oper} {ts : Array TypeId} {x y : Operand} (ho : o.op = .call ⟨.builtin .delete, #[x, y], ts⟩) : ActOk P G e o ρ (opDe P G tm ts x y) := by
  intro h nx r h' nx' hr w l
  obtain ⟨cs0, hex⟩ := exec_builtin ho e.eval
  have hrun : ∀ v w', (Builtin.delete_ ts o.type #[e.eval x, e.eval y]).run P w = .ok v w' → Ends P e o w v w' := fun v w' hv => .inl (by
    rw [hex, show (#[x, y] : Array Operand).map e.eval = #[e.eval x, e.eval y] by simp]
    simp [builtin, hv])
  unfold opDe at hr
  split at hr
  · rename_i t ts' hts
    have hts' : ts[0]? = some t := by rw [← Array.getElem?_toList, hts]; rfl
    split at hr
    · rename_i kt el hu
      replace hr := iff_eq hr; obtain ⟨h0, hr⟩ := hr
      obtain ⟨d0, hd0⟩ := ud_of h0
      replace hr := ob_eq hr; obtain ⟨c, h1, hr⟩ := hr
      replace hr := ob_eq hr; obtain ⟨d, h2, hr⟩ := hr
      replace hr := ob_eq hr; obtain ⟨k, h3, hr⟩ := hr
      replace hr := ob_eq hr; obtain ⟨q, h4, hr⟩ := hr
      replace hr := ob_eq hr; obtain ⟨_, h5, hr⟩ := hr
      replace hr := ob_eq hr; obtain ⟨r', h6, hr⟩ := hr
      have r1 := opdG ht hg h1
      have r2 := opdG ht hg h2
      have hk := toV_ok h3 r2
      obtain ⟨es, clock⟩ := q
      obtain ⟨id, bk, C, ms, rfl, e1, a1, a2, a3, a4⟩ := getM_ok l h4 r1
      cases hr
      obtain ⟨q', g1, g2⟩ := find_ok hd0 a4 h6
      have hck : (Instr.checkKey ms.isEmpty 10000 kt k).run P w = .ok () w := by rw [a4.empty]; exact runS_ok h5 w
      rw [e1, hk] at hrun
      cases r' with
      | none =>
        have g1' : q' = none := g1
        subst g1'
        obtain ⟨c1, c2⟩ := l.put (x := .map ms clock) (o' := .mp es clock) a2 a1 (keeps_putObj w bk _) (World.putObj_heap_same (lt_block a3)) (.mp a4)
        rw [← hup_set] at c1 c2
        refine ⟨ρ, _, _, .t .nil, c1, c2, hrun _ _ ?_⟩
        simp [Builtin.delete_, hts', run_underlying hu, run_getM a3, hck, g2, run_setM _ a3]
      | some p =>
        obtain ⟨j, q⟩ := p
        obtain ⟨m, _, f1, f2, f3, f4, f5, g1'⟩ := g1
        subst g1'
        obtain ⟨c1, c2⟩ := l.put (x := .map (ms.eraseIdxIfInBounds j) clock) (o' := .mp (es.eraseIdx j) clock) a2 a1 (keeps_putObj w bk _) (World.putObj_heap_same (lt_block a3))
          (.mp (by rw [show (ms.eraseIdxIfInBounds j).toList = ms.toList.eraseIdx j by simp]; exact a4.erase j))
        rw [← hup_set] at c1 c2
        refine ⟨ρ, _, _, .t .nil, c1, c2, hrun _ _ ?_⟩
        simp [Builtin.delete_, hts', run_underlying hu, run_getM a3, hck, g2, run_setM _ a3]
    · cases hr
  · cases hr
noncomputable def opCo (P : Program) (G : Nat) (tm : En) (ts : Array TypeId) (x y : Operand) (h : Tr AO) (nx : Nat) : Option (AV × Tr AO × Nat) :=
  match ts.toList with
  | t :: _ => match P.underlying t with
    | some (.slice el) => ob (opd G tm x) fun c => ob (opd G tm y) fun d => ob (szA P el) fun z => ob (lnA d) fun n => match c with
      | .sl id o len _ => fN (Nat.min n len) fun k => ob (srcA h d k z) fun new =>
          Bool.rec (motive := fun _ => Option (AV × Tr AO × Nat)) (ob (layA h id o new) fun h' => some (.i .i64 (.ofNat k), h', nx)) (some (.i .i64 (.ofNat k), h, nx)) (Nat.beq new.lng 0)
      | _ => none
    | _ => none
  | _ => none
theorem opCo_ok (ht : TR ρ tm nt e.tmps) (hg : ∀ g, g < G → ρ g = some (g, 0)) {o : Oper} {ts : Array TypeId} {x y : Operand} (ho : o.op = .call ⟨.builtin .copy, #[x, y], ts⟩) : ActOk P G e o ρ (opCo P G tm ts x y) := by
  intro h nx r h' nx' hr w l
  obtain ⟨cs0, hex⟩ := exec_builtin ho e.eval
  have hrun : ∀ v w', (Builtin.copy_ ts o.type #[e.eval x, e.eval y]).run P w = .ok v w' → Ends P e o w v w' := fun v w' hv => .inl (by
    rw [hex, show (#[x, y] : Array Operand).map e.eval = #[e.eval x, e.eval y] by simp]
    simp [builtin, hv])
  unfold opCo at hr
  split at hr
  · rename_i t ts' hts
    have hts' : ts[0]? = some t := by rw [← Array.getElem?_toList, hts]; rfl
    split at hr
    · rename_i el hu
      replace hr := ob_eq hr; obtain ⟨c, h1, hr⟩ := hr
      replace hr := ob_eq hr; obtain ⟨d, h2, hr⟩ := hr
      replace hr := ob_eq hr; obtain ⟨z, h3, hr⟩ := hr
      replace hr := ob_eq hr; obtain ⟨n, h4, hr⟩ := hr
      have r1 := opdG ht hg h1
      have r2 := opdG ht hg h2
      split at hr
      · rename_i id off len cap
        rw [fN_eq] at hr
        replace hr := ob_eq hr; obtain ⟨new, h5, hr⟩ := hr
        obtain ⟨ns, n1, n2, n3, n4⟩ := src_ok (P := P) l h5 r2
        have hlen := fun w => lnA_ok (P := P) h4 r2 w
        have hfn := n4 w (fun _ => rfl)
        generalize e.eval x = xv at r1 hrun
        cases r1 with
        | sl hp hc =>
          rename_i bk C
          have run0 : ∀ w', (storeCells ⟨bk, off, none⟩ ns).run P w = .ok () w' → (Builtin.copy_ ts o.type #[.slice (some ⟨bk, off, none⟩) len cap, e.eval y]).run P w = .ok (.int .i64 (Int.ofNat (Nat.min n len))) w' := fun w' hw => by
            simp [Builtin.copy_, hts', run_underlying hu, hlen, szA_ok h3, hfn, hw, goInt]
          cases hb0 : Nat.beq new.lng 0 with
          | true =>
            rw [hb0] at hr; cases hr
            have := R.nil_of n1 (Nat.eq_of_beq_eq_true hb0)
            subst this
            exact ⟨ρ, _, w, .i _ _, l, Nx.refl _ _ _, hrun _ _ (run0 w rfl)⟩
          | false =>
            rw [hb0] at hr
            replace hr : (ob (layA h id off new) fun h' => some (AV.i .i64 (.ofNat (Nat.min n len)), h', nx)) = some (r, h', nx') := hr
            replace hr := ob_eq hr; obtain ⟨h'', h7, hr⟩ := hr
            cases hr
            obtain ⟨w', a1, a2, a3⟩ := layA_ok (P := P) l h7 n1 hp
            exact ⟨ρ, _, w', .i _ _, a1, a2, hrun _ _ (run0 w' a3)⟩
      · cases hr
    · cases hr
  · cases hr
noncomputable def opCl (P : Program) (G : Nat) (tm : En) (ts : Array TypeId) (x : Operand) (h : Tr AO) (nx : Nat) : Option (AV × Tr AO × Nat) :=
  match ts.toList with
  | [t] => match P.underlying t with
    | some (.slice el) => ob (opd G tm x) fun c => match c with
      | .sl id o len _ => iff' (Nat.blt 0 len) (ob (zeA P el) fun z => ob (layA h id o (rpA len z.cells)) fun h' => some (.t .nil, h', nx))
      | _ => none
    | _ => none
  | _ => none
theorem opCl_ok (ht : TR ρ tm nt e.tmps) (hg : ∀ g, g < G → ρ g = some (g, 0)) {o : Oper} {ts : Array TypeId} {x : Operand} (ho : o.op = .call ⟨.builtin .clear, #[x], ts⟩) : ActOk P G e o ρ (opCl P G tm ts x) := by
  intro h nx r h' nx' hr w l
  obtain ⟨cs0, hex⟩ := exec_builtin ho e.eval
  have hrun : ∀ v w', (Builtin.clear_ ts o.type #[e.eval x]).run P w = .ok v w' → Ends P e o w v w' := fun v w' hv => .inl (by
    rw [hex, show (#[x] : Array Operand).map e.eval = #[e.eval x] by simp]
    simp [builtin, hv])
  unfold opCl at hr
  split at hr
  · rename_i t hts
    have hts' : ts[0]? = some t := by rw [← Array.getElem?_toList, hts]; rfl
    split at hr
    · rename_i el hu
      replace hr := ob_eq hr; obtain ⟨c, h1, hr⟩ := hr
      have r1 := opdG ht hg h1
      split at hr
      · rename_i id off len cap
        replace hr := iff_eq hr; obtain ⟨h0, hr⟩ := hr
        replace hr := ob_eq hr; obtain ⟨z, h2, hr⟩ := hr
        replace hr := ob_eq hr; obtain ⟨h'', h3, hr⟩ := hr
        cases hr
        obtain ⟨zv, hz, hzr⟩ := zeA_ok (ρ := ρ) h2
        rw [Nat.blt_eq] at h0
        generalize e.eval x = xv at r1 hrun
        cases r1 with
        | sl hp hc =>
          rename_i bk C
          obtain ⟨w', a1, a2, a3⟩ := layA_ok (P := P) l h3 (rpA_ok hz.cells len) hp
          refine ⟨ρ, _, w', .t .nil, a1, a2, hrun _ _ ?_⟩
          have hzc : (Builtin.zeroCells zv.cells len).toList = (List.replicate len zv.cells.toList).flatten := rep_eq zv.cells.toList len
          obtain ⟨m, rfl⟩ : ∃ m, len = m + 1 := ⟨len - 1, by omega⟩
          simp only [Builtin.clear_, Sem.run_bind, hts', List.getElem?_toArray, List.getElem?_cons_zero, run_underlying hu, Result.andThen_ok, hzr, hzc, a3, Sem.run_pure]
      · cases hr
    · cases hr
  · cases hr
end

end Go.Proofs.YthlphddehdjfjaaGreatDoor
