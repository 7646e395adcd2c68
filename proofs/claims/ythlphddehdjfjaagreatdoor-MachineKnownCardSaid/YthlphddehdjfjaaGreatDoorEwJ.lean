/- A reading of closed calls that the kernel can run: iterators. -/
import Derived.Test.YthlphddehdjfjaaGreatDoorEwI
namespace Go.Proofs.YthlphddehdjfjaaGreatDoor
open Go.RowKit
set_option linter.unusedVariables false
set_option linter.unusedSimpArgs false
set_option linter.unusedSectionVars false

noncomputable def fltE (p : Nat → Bool) (es : List ME) : List ME := List.rec (motive := fun _ => List ME) [] (fun e _ ih => Bool.rec (motive := fun _ => List ME) ih (e :: ih) (p e.b)) es
theorem fltE_ok {ρ : Rn} {es : List ME} {ms : List MapEntry} (h : MR ρ es ms) (p : Nat → Bool) : MR ρ (fltE p es) (ms.filter fun m => p m.born) := by
  induction h with
  | nil => exact .nil
  | @cons e m es ms hk hv hb _ ih =>
    show MR ρ (Bool.rec (motive := fun _ => List ME) (fltE p es) (e :: fltE p es) (p e.b)) _
    rw [List.filter_cons, hb]
    cases hp : p e.b with
    | true => exact .cons hk hv hb ih
    | false => exact ih
noncomputable def allE (p : Nat → Bool) (es : List ME) : Bool := List.rec (motive := fun _ => Bool) true (fun e _ ih => Bool.and (p e.b) ih) es
theorem allE_ok {ρ : Rn} {es : List ME} {ms : List MapEntry} (h : MR ρ es ms) (p : Nat → Bool) : ms.all (fun m => p m.born) = allE p es := by
  induction h with
  | nil => rfl
  | @cons e m es ms hk hv hb _ ih =>
    show (p m.born && ms.all _) = (p e.b && allE p es)
    rw [hb, ih]

section
variable {P : Program} {G nt : Nat} {ρ : Rn} {tm : En} {e : Act}

/-! ## range -/
noncomputable def opRs (P : Program) (G : Nat) (tm : En) (t : TypeId) (x : Operand) : Option AO := ob (opd G tm x) fun c => match P.underlying t, c with
  | some .string, .s b => some (.si b 0)
  | _, _ => none
theorem opRs_ok (ht : TR ρ tm nt e.tmps) (hg : ∀ g, g < G → ρ g = some (g, 0)) {o : Oper} {t : TypeId} {x : Operand} {ao : AO} (ho : o.op = .range t x) (h : opRs P G tm t x = some ao) : NewOk P e o ρ ao (fun i => .p i 0) := by
  intro w nx hn
  replace h := ob_eq h; obtain ⟨c, h1, h⟩ := h
  have r1 := opdG ht hg h1
  split at h
  · rename_i b hu
    cases h
    generalize hxv : e.eval x = xv at r1
    cases r1
    exact ⟨.stringIter b 0, 0, _, .si, .p (Rn.up_same _ _ _), by simp [execOp, ho, hxv, Instr.range, run_underlying hu]⟩
  · cases h
noncomputable def opRm (P : Program) (G : Nat) (tm : En) (t : TypeId) (x : Operand) (h : Tr AO) (nx : Nat) : Option (AV × Tr AO × Nat) :=
  ob (opd G tm x) fun c => match P.underlying t, c with
    | some (.map _ _), .m id => ob (getM h (.m id)) fun q => fN (nx + 1) fun nx' => some (.p nx 0, h.set nx (.mi id q.2 [] q.2), nx')
    | some (.map _ _), .nm => fN (nx + 1) fun nx' => some (.p nx 0, h.set nx .mz, nx')
    | _, _ => none
theorem opRm_ok (ht : TR ρ tm nt e.tmps) (hg : ∀ g, g < G → ρ g = some (g, 0)) {o : Oper} {t : TypeId} {x : Operand} (ho : o.op = .range t x) : ActOk P G e o ρ (opRm P G tm t x) := by
  intro h nx r h' nx' hr w l
  replace hr := ob_eq hr; obtain ⟨c, h1, hr⟩ := hr
  have r1 := opdG ht hg h1
  have hnx := l.top nx (Nat.le_refl _)
  split at hr
  · rename_i kt el id hu
    replace hr := ob_eq hr; obtain ⟨q, h2, hr⟩ := hr
    rw [fN_eq] at hr
    obtain ⟨es, clock⟩ := q
    obtain ⟨id', bk, C, ms, hid, e1, a1, a2, a3, a4⟩ := getM_ok l h2 r1
    cases hid
    cases hr
    obtain ⟨m1, m2⟩ := l.alloc (o := .mi id clock [] clock) (x := .mapIter (some bk) clock #[] clock) 0 (.mi (Rn.le_up _ hnx _ _ a1))
    rw [← hup_set] at m1 m2
    refine ⟨_, _, _, .p (Rn.up_same _ _ _), m1, m2, .inl ?_⟩
    simp [execOp, ho, e1, Instr.range, run_underlying hu, run_getM a3]
  · rename_i kt el hu
    rw [fN_eq] at hr
    cases hr
    generalize hxv : e.eval x = xv at r1
    cases r1
    obtain ⟨m1, m2⟩ := l.alloc (o := .mz) (x := .mapIter none 0 #[] 0) 0 .mz
    rw [← hup_set] at m1 m2
    refine ⟨_, _, _, .p (Rn.up_same _ _ _), m1, m2, .inl ?_⟩
    simp [execOp, ho, hxv, Instr.range, run_underlying hu]
  · cases hr

/-! ## next -/
noncomputable def opNx (G : Nat) (tm : En) (x : Operand) (s : Bool) (h : Tr AO) (nx : Nat) : Option (AV × Tr AO × Nat) :=
  ob (opd G tm x) fun c => match c with
    | .p id 0 => ob (h.get id) fun ao => match ao, s with
      | .si b pos, true => Bool.rec (motive := fun _ => Option (AV × Tr AO × Nat)) (some (.t (.cons (.b false) .nil), h, nx))
          (fN (Utf8.decode b pos).1 fun c => fN (pos + (Utf8.decode b pos).2) fun p' => some (.t (.cons (.b true) (.cons (.i .i64 (.ofNat pos)) (.cons (.i .i32 (.ofNat c)) .nil))), h.set id (.si b p'), nx)) (Nat.blt pos b.size)
      | .mz, false => some (.t (.cons (.b false) .nil), h, nx)
      | .mi m since seen stepped, false => ob (getM h (.m m)) fun q =>
          iff' (not (Bool.and (not seen.isEmpty) (Bool.and (not q.1.isEmpty) (allE (fun n => decide (n ≥ stepped)) q.1))))
            (match fltE (fun n => decide (n < since)) (fltE (fun n => !seen.contains n) q.1), fltE (fun n => decide (n ≥ since)) (fltE (fun n => !seen.contains n) q.1) with
              | [], [] => some (.t (.cons (.b false) .nil), h, nx)
              | [y], [] => some (.t (.cons (.b true) (.cons y.k (.cons y.v .nil))), h.set id (.mi m since (seen ++ [y.b]) q.2), nx)
              | _, _ => none)
      | _, _ => none
    | _ => none
theorem opNx_ok (ht : TR ρ tm nt e.tmps) (hg : ∀ g, g < G → ρ g = some (g, 0)) {o : Oper} {x : Operand} {s : Bool} (ho : o.op = .next x s) : ActOk P G e o ρ (opNx G tm x s) := by
  intro h nx r h' nx' hr w l
  have hrun : ∀ v w', (Instr.next (e.eval x) s o.type).run P w = .ok v w' → Ends P e o w v w' := fun v w' hv => .inl (by simp [execOp, ho, hv])
  replace hr := ob_eq hr; obtain ⟨c, h1, hr⟩ := hr
  have r1 := opdG ht hg h1
  generalize e.eval x = xv at r1 hrun
  split at hr
  · rename_i id
    replace hr := ob_eq hr; obtain ⟨ao, h2, hr⟩ := hr
    cases r1 with
    | p hp =>
      rename_i bk C
      obtain ⟨x0, q1, q2⟩ := l.at h2 hp
      have hlt := lt_block q1
      split at hr
      · rename_i b pos
        cases q2
        have hget : (getObj bk).run P w = .ok (.stringIter b pos) w := by simp [getObj, Sem.run, q1]
        have hset : ∀ o', (setObj bk o').run P w = .ok () (w.putObj bk o') := fun o' => by simp [setObj, Sem.run, q1, World.putObj]
        cases hb : Nat.blt pos b.size with
        | false =>
          rw [hb] at hr; cases hr
          have : ¬ pos < b.size := fun hlt => by rw [← Nat.blt_eq] at hlt; rw [hlt] at hb; exact Bool.noConfusion hb
          exact ⟨ρ, _, w, .t (.cons (.b _) .nil), l, Nx.refl _ _ _, hrun _ _ (by simp [Instr.next, hget, this])⟩
        | true =>
          rw [hb] at hr
          replace hr : (fN (Utf8.decode b pos).1 fun c => fN (pos + (Utf8.decode b pos).2) fun p' => some (AV.t (.cons (.b true) (.cons (.i .i64 (.ofNat pos)) (.cons (.i .i32 (.ofNat c)) .nil))), h.set id (.si b p'), nx)) = some (r, h', nx') := hr
          rw [fN_eq, fN_eq] at hr
          cases hr
          rw [Nat.blt_eq] at hb
          obtain ⟨c1, c2⟩ := l.put (x := .stringIter b (pos + (Utf8.decode b pos).2)) (o' := .si b (pos + (Utf8.decode b pos).2)) h2 hp (keeps_putObj w bk _) (World.putObj_heap_same hlt) .si
          rw [← hup_set] at c1 c2
          refine ⟨ρ, _, _, .t (.cons (.b _) (.cons (.i _ _) (.cons (.i _ _) .nil))), c1, c2, hrun _ _ ?_⟩
          simp [Instr.next, hget, hb, hset, goInt]
      · cases hr
        cases q2
        have hget : ∀ a b c, w.heap[bk]? = some (.mapIter none a b c) → (getObj bk).run P w = .ok (.mapIter none a b c) w := fun a b c q => by simp [getObj, Sem.run, q]
        exact ⟨ρ, _, w, .t (.cons (.b _) .nil), l, Nx.refl _ _ _, hrun _ _ (by simp [Instr.next, hget _ _ _ q1])⟩
      · rename_i m since seen stepped
        replace hr := ob_eq hr; obtain ⟨q, h3, hr⟩ := hr
        replace hr := iff_eq hr; obtain ⟨h4, hr⟩ := hr
        cases q2 with
        | mi hm =>
          rename_i mb mc
          obtain ⟨es, clock⟩ := q
          obtain ⟨id', mb', C', ms, hid, e1, a1, a2, a3, a4⟩ := getM_ok (v := .map (some mb)) l h3 (.m hm)
          cases hid; cases e1
          have hget : (getObj bk).run P w = .ok (.mapIter (some mb) since ⟨seen⟩ stepped) w := by simp [getObj, Sem.run, q1]
          have hset : ∀ o', (setObj bk o').run P w = .ok () (w.putObj bk o') := fun o' => by simp [setObj, Sem.run, q1, World.putObj]
          have hunder : ((!(⟨seen⟩ : Array Nat).isEmpty && !ms.isEmpty && ms.all (·.born ≥ stepped)) : Bool) = false := by
            have h5 : ms.all (fun m => decide (m.born ≥ stepped)) = allE (fun n => decide (n ≥ stepped)) es := by
              rw [← Array.all_toList]; exact allE_ok a4 (fun n => decide (n ≥ stepped))
            rw [a4.empty, h5, show (⟨seen⟩ : Array Nat).isEmpty = seen.isEmpty by simp]
            rw [Bool.and_assoc]
            cases hx : (!seen.isEmpty && (!es.isEmpty && allE (fun n => decide (n ≥ stepped)) es)) with
            | false => rfl
            | true =>
              have h4' : (!(!seen.isEmpty && (!es.isEmpty && allE (fun n => decide (n ≥ stepped)) es))) = true := h4
              rw [hx] at h4'; exact Bool.noConfusion h4'
          have hleft := fltE_ok a4 (fun n => !seen.contains n)
          have hold := fltE_ok hleft (fun n => decide (n < since))
          have hnew := fltE_ok hleft (fun n => decide (n ≥ since))
          obtain ⟨L, hL⟩ : ∃ L : Array MapEntry, ms.filter (fun e => !(⟨seen⟩ : Array Nat).contains e.born) = L := ⟨_, rfl⟩
          have hLl : L.toList = ms.toList.filter (fun m => !seen.contains m.born) := by rw [← hL]; simp
          rw [← hLl] at hold hnew
          have ol : ((L.filter (fun m => decide (m.born < since))).toList) = L.toList.filter (fun m => decide (m.born < since)) := by simp
          have nl : ((L.filter (fun m => decide (m.born ≥ since))).toList) = L.toList.filter (fun m => decide (m.born ≥ since)) := by simp
          rw [← ol] at hold
          rw [← nl] at hnew
          obtain ⟨A, hA⟩ : ∃ A : Array MapEntry, L.filter (fun m => decide (m.born < since)) = A := ⟨_, rfl⟩
          obtain ⟨B, hB⟩ : ∃ B : Array MapEntry, L.filter (fun m => decide (m.born ≥ since)) = B := ⟨_, rfl⟩
          rw [hA] at hold
          rw [hB] at hnew
          have step : (Instr.next (.pointer (some ⟨bk, 0, none⟩)) false o.type).run P w =
              (do match ((if A.isEmpty then #[none] else #[]) ++ (A ++ B).map some)[← choose (.mapNext ((if A.isEmpty then #[none] else #[]) ++ (A ++ B).map some).size)]? with
                | some (some e) =>
                  setObj bk (.mapIter (some mb) since ((⟨seen⟩ : Array Nat).push e.born) clock)
                  pure (.tuple #[.bool true, e.key, e.val])
                | some none => pure (.tuple #[.bool false])
                | none => stuck "Next: no such candidate" : Sem Value).run P w := by
            simp only [Instr.next, Sem.run_bind, hget, Result.andThen_ok, run_getM a3, hunder, Bool.false_eq_true, if_false, hL, hA, hB]
            rfl
          split at hr
          · rename_i ho1 hn1
            cases hr
            rw [ho1] at hold
            rw [hn1] at hnew
            have hA0 : A = #[] := Array.ext' (by generalize A.toList = z at hold; cases hold; rfl)
            have hB0 : B = #[] := Array.ext' (by generalize B.toList = z at hnew; cases hnew; rfl)
            subst hA0; subst hB0
            refine ⟨ρ, _, w, .t (.cons (.b _) .nil), l, Nx.refl _ _ _, hrun _ _ ?_⟩
            rw [step]
            simp [Question.forced]
          · rename_i y ho1 hn1
            cases hr
            rw [ho1] at hold
            rw [hn1] at hnew
            have hB0 : B = #[] := Array.ext' (by generalize B.toList = z at hnew; cases hnew; rfl)
            subst hB0
            generalize hz : A.toList = z at hold
            cases hold with
            | @cons _ m0 _ ms0 hk hv hb hrest =>
              cases hrest
              have hA1 : A = #[m0] := Array.ext' hz
              subst hA1
              obtain ⟨c1, c2⟩ := l.put (x := .mapIter (some mb) since ⟨seen ++ [y.b]⟩ clock) (o' := .mi m since (seen ++ [y.b]) clock) h2 hp (keeps_putObj w bk _) (World.putObj_heap_same hlt) (.mi hm)
              rw [← hup_set] at c1 c2
              refine ⟨ρ, _, _, .t (.cons (.b _) (.cons hk (.cons hv .nil))), c1, c2, hrun _ _ ?_⟩
              rw [step]
              have hpush : (⟨seen⟩ : Array Nat).push m0.born = ⟨seen ++ [y.b]⟩ := Array.ext' (by simp [hb])
              simp [Question.forced, hset]
              rw [hb]
          · cases hr
      · cases hr
  · cases hr

/-! ## entry -/
noncomputable def lstN (l : List Nat) : Option Nat := List.rec (motive := fun _ => Option Nat) none (fun n _ ih => Option.rec (motive := fun _ => Option Nat) (some n) (fun m => some m) ih) l
theorem lstN_ok : ∀ {l : List Nat} {n : Nat}, lstN l = some n → l.getLast? = some n
  | [], n, h => by cases h
  | m :: l, n, h => by
    change Option.rec (motive := fun _ => Option Nat) (some m) (fun m => some m) (lstN l) = some n at h
    cases hl : lstN l with
    | none =>
      rw [hl] at h; cases h
      cases l with
      | nil => rfl
      | cons a l =>
        exfalso
        change Option.rec (motive := fun _ => Option Nat) (some a) (fun m => some m) (lstN l) = none at hl
        cases h2 : lstN l <;> rw [h2] at hl <;> cases hl
    | some k =>
      rw [hl] at h; cases h
      have := lstN_ok hl
      rw [List.getLast?_cons, this]; rfl
noncomputable def opEn (G : Nat) (tm : En) (x : Operand) (h : Tr AO) : Option AV :=
  ob (opd G tm x) fun c => match c with
    | .p id 0 => ob (h.get id) fun ao => match ao with
      | .mi m since seen stepped => ob (lstN seen) fun st => ob (getM h (.m m)) fun q => iff' (Nat.beq q.2 stepped) (ob (bornA q.1 st 0) fun p => some (.t (.cons p.2.k (.cons p.2.v .nil))))
      | _ => none
    | _ => none
theorem opEn_ok (ht : TR ρ tm nt e.tmps) (hg : ∀ g, g < G → ρ g = some (g, 0)) {o : Oper} {x : Operand} (ho : o.op = .entry x) : ReadOk P G e o ρ (opEn G tm x) := by
  intro h r hr nx w l
  have hrun : ∀ v w', (Instr.entry (e.eval x)).run P w = .ok v w' → (execOp e.eval o).run P w = .ok (.value v) w' := fun v w' hv => by simp [execOp, ho, hv]
  replace hr := ob_eq hr; obtain ⟨c, h1, hr⟩ := hr
  have r1 := opdG ht hg h1
  generalize e.eval x = xv at r1 hrun
  split at hr
  · rename_i id
    replace hr := ob_eq hr; obtain ⟨ao, h2, hr⟩ := hr
    cases r1 with
    | p hp =>
      rename_i bk C
      obtain ⟨x0, q1, q2⟩ := l.at h2 hp
      split at hr
      · rename_i m since seen stepped
        replace hr := ob_eq hr; obtain ⟨st, h3, hr⟩ := hr
        replace hr := ob_eq hr; obtain ⟨q, h4, hr⟩ := hr
        replace hr := iff_eq hr; obtain ⟨h5, hr⟩ := hr
        replace hr := ob_eq hr; obtain ⟨p, h6, hr⟩ := hr
        cases hr
        obtain ⟨es, clock⟩ := q
        obtain rfl : clock = stepped := Nat.eq_of_beq_eq_true h5
        cases q2 with
        | mi hm =>
          rename_i mb mc
          obtain ⟨id', mb', C', ms, hid, e1, a1, a2, a3, a4⟩ := getM_ok (v := .map (some mb)) l h4 (.m hm)
          cases hid; cases e1
          obtain ⟨j, y⟩ := p
          obtain ⟨m0, _, _, _, b4, b5, _, b7⟩ := bornA_ok a4 h6
          have hget : (getObj bk).run P w = .ok (.mapIter (some mb) since ⟨seen⟩ clock) w := by simp [getObj, Sem.run, q1]
          refine ⟨_, .t (.cons b4 (.cons b5 .nil)), hrun _ _ ?_⟩
          have hb : (⟨seen⟩ : Array Nat).back? = some st := by rw [← lstN_ok h3]; simp
          have hf : ms.find? (fun e => e.born == st) = some m0 := by
            cases ms with
            | mk l => simpa using b7
          simp [Instr.entry, hget, hb, run_getM a3, hf]
      · cases hr
  · cases hr
end

end Go.Proofs.YthlphddehdjfjaaGreatDoor
