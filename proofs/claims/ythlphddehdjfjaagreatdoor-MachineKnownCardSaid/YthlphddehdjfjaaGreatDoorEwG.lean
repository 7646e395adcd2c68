/- A reading of closed calls that the kernel can run: maps. -/
import Derived.Test.YthlphddehdjfjaaGreatDoorEwF
namespace Go.Proofs.YthlphddehdjfjaaGreatDoor
open Go.RowKit
set_option linter.unusedVariables false
set_option linter.unusedSimpArgs false
set_option linter.unusedSectionVars false

/-! ## finding a key -/
noncomputable def fnd (P : Program) (kt : TypeId) (k : Value) (es : List ME) : Nat → Option (Option (Nat × ME)) :=
  List.rec (motive := fun _ => Nat → Option (Option (Nat × ME))) (fun _ => some none)
    (fun e _ ih i => ob (toV e.k) fun u => ob (runS P (Op.equal kt k u)) fun b => Bool.rec (motive := fun _ => Option (Option (Nat × ME))) (ih (i + 1)) (some (some (i, e))) b) es
theorem sameNow_equal {P : Program} {kt : TypeId} {d : TypeDesc} (hu : P.underlying kt = some d) {k u : Value} {b c : Bool} (h : Instr.sameNow d k u = some b) (hc : ∀ w, (Op.equal kt k u).run P w = .ok c w) : b = c := by
  have hc := hc default
  unfold Instr.sameNow at h
  split at h
  · split at h
    · rename_i hk
      cases h
      subst hk
      have : (Op.equalIn (9999 + 1) kt _ _).run P default = _ := hc
      unfold Op.equalIn at this
      simp [run_underlying hu] at this
      exact this
    · cases h
  · cases h
    have : (Op.equalIn (9999 + 1) kt _ _).run P default = _ := hc
    unfold Op.equalIn at this
    simp [run_underlying hu] at this
    exact this
  · cases h
    have : (Op.equalIn (9999 + 1) kt _ _).run P default = _ := hc
    unfold Op.equalIn at this
    simp [run_underlying hu] at this
    exact this
  · cases h
/-- what was found, in a world's map -/
def Fnd (ρ : Rn) (es : List ME) (ms : List MapEntry) (i : Nat) : Option (Nat × ME) → Option (Nat × Value) → Prop
  | none, r => r = none
  | some (j, e), r => ∃ m, i ≤ j ∧ es[j - i]? = some e ∧ ms[j - i]? = some m ∧ R ρ e.k (.v m.key) ∧ R ρ e.v (.v m.val) ∧ m.born = e.b ∧ r = some (j, m.val)
theorem fnd_ok {ρ : Rn} {P : Program} {kt : TypeId} {k : Value} {es : List ME} {ms : List MapEntry} (hm : MR ρ es ms) : ∀ {i : Nat} {r : Option (Nat × ME)}, fnd P kt k es i = some r →
    ∃ q, Fnd ρ es ms i r q ∧ (∀ w, (Instr.findAsking kt k ms i).run P w = .ok q w) ∧ ∀ d, P.underlying kt = some d → ∀ q', Instr.findNow d k ms i = some q' → q' = q := by
  induction hm with
  | nil =>
    intro i r h
    cases h
    exact ⟨none, rfl, fun w => rfl, fun d _ q' h => by cases h; rfl⟩
  | @cons e m es ms hk hv hb _ ih =>
    intro i r h
    replace h := ob_eq h; obtain ⟨u, h1, h⟩ := h
    replace h := ob_eq h; obtain ⟨b, h2, h⟩ := h
    have hu := toV_ok h1 hk
    have heq : ∀ w, (Op.equal kt k m.key).run P w = .ok b w := fun w => by rw [hu]; exact runS_ok h2 w
    cases b with
    | true =>
      cases h
      refine ⟨some (i, m.val), ⟨m, Nat.le_refl _, by simp, by simp, hk, hv, hb, rfl⟩, fun w => by simp [Instr.findAsking, heq], fun d hd q' hq => ?_⟩
      simp only [Instr.findNow] at hq
      split at hq
      · cases hq; rfl
      · rename_i hs
        exact absurd (sameNow_equal hd hs heq) (by decide)
      · cases hq
    | false =>
      obtain ⟨q, f1, f2, f3⟩ := ih h
      refine ⟨q, ?_, fun w => by simp [Instr.findAsking, heq, f2], fun d hd q' hq => ?_⟩
      · cases r with
        | none => exact f1
        | some p =>
          obtain ⟨j, e'⟩ := p
          obtain ⟨m', g1, g2, g3, g4⟩ := f1
          refine ⟨m', by omega, ?_, ?_, g4⟩
          · rw [show j - i = (j - (i + 1)) + 1 by omega]; simpa using g2
          · rw [show j - i = (j - (i + 1)) + 1 by omega]; simpa using g3
      · simp only [Instr.findNow] at hq
        split at hq
        · rename_i hs
          exact absurd (sameNow_equal hd hs heq) (by decide)
        · exact f3 d hd q' hq
        · cases hq
theorem find_ok {ρ : Rn} {P : Program} {kt : TypeId} {k : Value} {es : List ME} {ms : List MapEntry} {r : Option (Nat × ME)} {d : TypeDesc} (hd : P.underlying kt = some d) (hm : MR ρ es ms) (h : fnd P kt k es 0 = some r) :
    ∃ q, Fnd ρ es ms 0 r q ∧ ∀ w, (Instr.findKey kt k ms).run P w = .ok q w := by
  obtain ⟨q, h1, h2, h3⟩ := fnd_ok hm h
  refine ⟨q, h1, fun w => ?_⟩
  simp only [Instr.findKey, Sem.run_bind, run_underlying hd, Result.andThen_ok]
  split
  · rename_i r' hr
    rw [h3 d hd _ hr]
    rfl
  · exact h2 w
noncomputable def udA (P : Program) (t : TypeId) : Bool := match P.underlying t with
  | some _ => true
  | none => false
/-- a map's entries, and a key found in them -/
noncomputable def getM (h : Tr AO) (c : AV) : Option (List ME × Nat) := match c with
  | .m id => match h.get id with
    | some (.mp es clock) => some (es, clock)
    | _ => none
  | _ => none
theorem getM_ok {G nx : Nat} {ρ : Rn} {h : Tr AO} {w : World} {c : AV} {v : Value} {es : List ME} {clock : Nat} (l : Lay G ρ h.get nx w) (e : getM h c = some (es, clock)) (r : R ρ c (.v v)) :
    ∃ id bk C ms, c = .m id ∧ v = .map (some bk) ∧ ρ id = some (bk, C) ∧ h.get id = some (.mp es clock) ∧ w.heap[bk]? = some (.map ms clock) ∧ MR ρ es ms.toList := by
  unfold getM at e
  split at e
  · split at e
    · rename_i hq
      cases e
      cases r with
      | m hp =>
        obtain ⟨x, h1, h2⟩ := l.at hq hp
        cases h2 with
        | mp hm => exact ⟨_, _, _, _, rfl, rfl, hp, hq, h1, hm⟩
    · cases e
  · cases e
theorem MR.empty {ρ : Rn} {es : List ME} {ms : Array MapEntry} (h : MR ρ es ms.toList) : ms.isEmpty = es.isEmpty := by
  generalize hx : ms.toList = l at h
  have : ms.isEmpty = l.isEmpty := by rw [← hx]; simp
  rw [this]
  cases h <;> rfl
theorem run_getM {P : Program} {w : World} {r : Nat} {ms : Array MapEntry} {clock : Nat} (h : w.heap[r]? = some (.map ms clock)) : (getObj r).run P w = .ok (.map ms clock) w := by simp [getObj, Sem.run, h]
theorem run_setM {P : Program} {w : World} {r : Nat} {ms : Array MapEntry} {clock : Nat} (o : Obj) (h : w.heap[r]? = some (.map ms clock)) : (setObj r o).run P w = .ok () (w.putObj r o) := by simp [setObj, Sem.run, h, World.putObj]
theorem keeps_putObj (w : World) (r : Nat) (o : Obj) : Keeps (fun z => z = r) w (w.putObj r o) := (Keeps.refl (fun z => z = r) w).putObj (.inl rfl) o

/-! ## lookup -/
noncomputable def resM (c : AV) (ok b : Bool) : AV := Bool.rec (motive := fun _ => AV) c (.t (.cons c (.cons (.b b) .nil))) ok
noncomputable def opLk (P : Program) (G : Nat) (tm : En) (t : TypeId) (x y : Operand) (ok : Bool) (h : Tr AO) : Option AV :=
  match P.underlying t with
  | some (.map kt el) => iff' (udA P kt) (ob (opd G tm x) fun c => ob (opd G tm y) fun d => ob (toV d) fun k =>
      ob (match c with | .nm => some ([], 0) | c => getM h c) fun q => ob (runS P (Instr.checkKey q.1.isEmpty 10000 kt k)) fun _ => ob (fnd P kt k q.1 0) fun r => match r with
        | some p => some (resM p.2.v ok true)
        | none => ob (zeA P el) fun z => some (resM z ok false))
  | _ => none
section
variable {P : Program} {G nt : Nat} {ρ : Rn} {tm : En} {e : Act}
theorem resM_ok {c : AV} {v : Value} (ok b : Bool) (h : R ρ c (.v v)) : R ρ (resM c ok b) (.v (if ok then .tuple #[v, .bool b] else v)) := by
  cases ok with
  | false => exact h
  | true => exact .t (.cons h (.cons (.b _) .nil))
theorem ud_of {t : TypeId} (h : udA P t = true) : ∃ d, P.underlying t = some d := by
  unfold udA at h
  split at h
  · exact ⟨_, by assumption⟩
  · cases h
theorem opLk_ok (ht : TR ρ tm nt e.tmps) (hg : ∀ g, g < G → ρ g = some (g, 0)) {o : Oper} {t : TypeId} {x y : Operand} {ok : Bool} (ho : o.op = .lookup t x y ok) : ReadOk P G e o ρ (opLk P G tm t x y ok) := by
  intro h r hr nx w l
  have hex : (execOp e.eval o).run P w = ((Instr.lookup t (e.eval x) (e.eval y) ok).run P w).andThen fun v w' => .ok (.value v) w' := by simp [execOp, ho]
  rw [hex]
  unfold opLk at hr
  split at hr
  · rename_i kt el hu
    replace hr := iff_eq hr; obtain ⟨h0, hr⟩ := hr
    obtain ⟨d0, hd0⟩ := ud_of h0
    replace hr := ob_eq hr; obtain ⟨c, h1, hr⟩ := hr
    replace hr := ob_eq hr; obtain ⟨d, h2, hr⟩ := hr
    replace hr := ob_eq hr; obtain ⟨k, h3, hr⟩ := hr
    replace hr := ob_eq hr; obtain ⟨q, h4, hr⟩ := hr
    replace hr := ob_eq hr; obtain ⟨_, h5, hr⟩ := hr
    replace hr := ob_eq hr; obtain ⟨r', h6, hr⟩ := hr
    have r1 := opdG ht hg h1
    have r2 := opdG ht hg h2
    rw [toV_ok h3 r2]
    generalize e.eval x = v at r1 ⊢
    obtain ⟨es, clock⟩ := q
    have fin : ∀ (ms : Array MapEntry), MR ρ es ms.toList → ∃ v, R ρ r (.v v) ∧
        (do Instr.checkKey ms.isEmpty 10000 kt k
            let (v, ok') ← match ← Instr.findKey kt k ms.toList with
              | some (_, v) => pure (v, true)
              | none => pure (← zeroValue el, false)
            pure (if ok then .tuple #[v, .bool ok'] else v) : Sem Value).run P w = .ok v w := fun ms hm => by
      obtain ⟨q', g1, g2⟩ := find_ok hd0 hm h6
      have hck : (Instr.checkKey ms.isEmpty 10000 kt k).run P w = .ok () w := by rw [hm.empty]; exact runS_ok h5 w
      cases r' with
      | none =>
        replace hr := ob_eq hr; obtain ⟨z, h7, hr⟩ := hr
        cases hr
        obtain ⟨zv, hz, hzr⟩ := zeA_ok (ρ := ρ) h7
        have g1' : q' = none := g1
        subst g1'
        exact ⟨_, resM_ok ok false hz, by simp [hck, g2, hzr]⟩
      | some p =>
        cases hr
        obtain ⟨m, _, _, _, _, hv, _, g1'⟩ := g1
        subst g1'
        exact ⟨_, resM_ok ok true hv, by simp [hck, g2]⟩
    split at h4
    · cases h4
      cases r1 with
      | nm =>
        obtain ⟨v, f1, f2⟩ := fin #[] .nil
        refine ⟨v, f1, ?_⟩
        have : (Instr.lookup t (.map none) k ok).run P w = .ok v w := by
          rw [← f2]
          simp only [Instr.lookup, Sem.run_bind, run_underlying hu, Result.andThen_ok, Sem.run_pure]
          rfl
        rw [this]; rfl
    · obtain ⟨id, bk, C, ms, rfl, rfl, a1, a2, a3, a4⟩ := getM_ok l h4 r1
      obtain ⟨v, f1, f2⟩ := fin ms a4
      refine ⟨v, f1, ?_⟩
      have : (Instr.lookup t (.map (some bk)) k ok).run P w = .ok v w := by
        rw [← f2]
        simp only [Instr.lookup, Sem.run_bind, run_underlying hu, Result.andThen_ok, run_getM a3, Sem.run_pure]
        rfl
      rw [this]; rfl
  · cases hr

/-! ## updates -/
theorem MR.get {es : List ME} {ms : List MapEntry} (h : MR ρ es ms) : ∀ {j : Nat} {m : MapEntry}, ms[j]? = some m → ∃ q, es[j]? = some q ∧ R ρ q.k (.v m.key) ∧ R ρ q.v (.v m.val) ∧ m.born = q.b := by
  induction h with
  | nil => intro j m h; simp at h
  | cons hk hv hb _ ih =>
    intro j m h
    cases j with
    | zero => cases h; exact ⟨_, rfl, hk, hv, hb⟩
    | succ j => simpa using ih (j := j) (by simpa using h)
theorem MR.set {es : List ME} {ms : List MapEntry} (h : MR ρ es ms) {q : ME} {m : MapEntry} (hk : R ρ q.k (.v m.key)) (hv : R ρ q.v (.v m.val)) (hb : m.born = q.b) : ∀ j, MR ρ (es.set j q) (ms.set j m) := by
  induction h with
  | nil => intro j; exact .nil
  | cons a b c d ih =>
    intro j
    cases j with
    | zero => exact .cons hk hv hb d
    | succ j => exact .cons a b c (ih j)
theorem MR.app {es : List ME} {ms : List MapEntry} (h : MR ρ es ms) {q : ME} {m : MapEntry} (hk : R ρ q.k (.v m.key)) (hv : R ρ q.v (.v m.val)) (hb : m.born = q.b) : MR ρ (es ++ [q]) (ms ++ [m]) := by
  induction h with
  | nil => exact .cons hk hv hb .nil
  | cons a b c d ih => exact .cons a b c ih
theorem MR.erase {es : List ME} {ms : List MapEntry} (h : MR ρ es ms) : ∀ j, MR ρ (es.eraseIdx j) (ms.eraseIdx j) := by
  induction h with
  | nil => intro j; exact .nil
  | cons a b c d ih =>
    intro j
    cases j with
    | zero => exact d
    | succ j => exact .cons a b c (ih j)
theorem modify_set (ms : Array MapEntry) (j : Nat) (m : MapEntry) (f : MapEntry → MapEntry) (h : ms.toList[j]? = some m) : (ms.modify j f).toList = ms.toList.set j (f m) := by
  apply List.ext_getElem?
  intro i
  have h' : ms[j]? = some m := by simpa using h
  rw [List.getElem?_set]
  by_cases hi : j = i
  · subst hi
    have hj : j < ms.size := (Array.getElem?_eq_some_iff.1 h').1
    have hm : ms[j] = m := by simpa [Array.getElem?_eq_getElem hj] using h'
    simp [Array.getElem?_modify, h', hj, hm]
  · simp [Array.getElem?_modify, hi]
/-- the entry of a key is laid -/
noncomputable def putM (P : Program) (kt : TypeId) (d c : AV) (k : Value) (es : List ME) (clock : Nat) : Option (List ME × Nat) :=
  ob (fnd P kt k es 0) fun r => match r with
    | some p => ob (toV p.2.k) fun k0 => iff' (Instr.sameBits 10000 k0 k) (some (es.set p.1 ⟨d, c, p.2.b⟩, clock))
    | none => some (es ++ [⟨d, c, clock⟩], clock + 1)
noncomputable def opMu (P : Program) (G : Nat) (tm : En) (t : TypeId) (x y z : Operand) (h : Tr AO) (nx : Nat) : Option (AV × Tr AO × Nat) :=
  match P.underlying t with
  | some (.map kt _) => iff' (udA P kt) (ob (opd G tm x) fun c => ob (opd G tm y) fun d => ob (opd G tm z) fun u => ob (toV d) fun k => ob (getM h c) fun q =>
      ob (runS P (Instr.checkKey false 10000 kt k)) fun _ => ob (putM P kt d u k q.1 q.2) fun q' => match c with
        | .m id => some (.t .nil, h.set id (.mp q'.1 q'.2), nx)
        | _ => none)
  | _ => none
theorem putM_ok {kt : TypeId} {d c : AV} {k v : Value} {es es' : List ME} {clock clock' : Nat} {ms : Array MapEntry} (h0 : udA P kt = true) (hm : MR ρ es ms.toList) (hd : R ρ d (.v k)) (hc : R ρ c (.v v)) (h : putM P kt d c k es clock = some (es', clock')) :
    ∃ ms', MR ρ es' ms'.toList ∧ ∀ (bk : Nat) (w : World), w.heap[bk]? = some (.map ms clock) →
      (do match ← Instr.findKey kt k ms.toList with
          | some (i, _) => do
            let key ← Instr.keyThatStays (((ms[i]?).map (·.key)).getD k) k
            setObj bk (.map (ms.modify i fun e => { e with key, val := v }) clock)
          | none => setObj bk (.map (ms.push { key := k, val := v, born := clock }) (clock + 1)) : Sem Unit).run P w = .ok () (w.putObj bk (.map ms' clock')) := by
  obtain ⟨d0, hd0⟩ := ud_of h0
  replace h := ob_eq h; obtain ⟨r, h1, h⟩ := h
  obtain ⟨q', g1, g2⟩ := find_ok hd0 hm h1
  cases r with
  | none =>
    cases h
    have g1' : q' = none := g1
    subst g1'
    refine ⟨ms.push ⟨k, v, clock⟩, by rw [Array.toList_push]; exact hm.app hd hc rfl, fun bk w hq => ?_⟩
    simp [g2, run_setM _ hq]
  | some p =>
    replace h := ob_eq h; obtain ⟨k0, h2, h⟩ := h
    replace h := iff_eq h; obtain ⟨h3, h⟩ := h
    cases h
    obtain ⟨j, q⟩ := p
    obtain ⟨m, _, a1, a2, a3, a4, a5, g1'⟩ := g1
    subst g1'
    have hk0 := toV_ok h2 a3
    have a2' : ms[j]? = some m := by simpa using a2
    refine ⟨ms.modify j fun e => { e with key := k, val := v }, ?_, fun bk w hq => ?_⟩
    · rw [modify_set ms j m _ (by simpa using a2)]
      exact hm.set (q := ⟨d, c, q.b⟩) (m := { m with key := k, val := v }) hd hc a5 j
    · have hst : (Instr.keyThatStays m.key k).run P w = .ok k w := by
        rw [hk0]; unfold Instr.keyThatStays; rw [if_pos h3]; rfl
      simp [g2, a2', hst, run_setM _ hq]
theorem opMu_ok (ht : TR ρ tm nt e.tmps) (hg : ∀ g, g < G → ρ g = some (g, 0)) {o : Oper} {t : TypeId} {x y z : Operand} (ho : o.op = .mapUpdate t x y z ∨ o.op = .insert t x y z) : ActOk P G e o ρ (opMu P G tm t x y z) := by
  intro h nx r h' nx' hr w l
  have hex : (execOp e.eval o).run P w = ((Instr.mapUpdate t (e.eval x) (e.eval y) (e.eval z)).run P w).andThen fun v w' => .ok .skip w' := by
    rcases ho with ho | ho <;> simp [execOp, ho]
  unfold opMu at hr
  split at hr
  · rename_i kt el hu
    replace hr := iff_eq hr; obtain ⟨h0, hr⟩ := hr
    replace hr := ob_eq hr; obtain ⟨c, h1, hr⟩ := hr
    replace hr := ob_eq hr; obtain ⟨d, h2, hr⟩ := hr
    replace hr := ob_eq hr; obtain ⟨u, h3, hr⟩ := hr
    replace hr := ob_eq hr; obtain ⟨k, h4, hr⟩ := hr
    replace hr := ob_eq hr; obtain ⟨q, h5, hr⟩ := hr
    replace hr := ob_eq hr; obtain ⟨_, h6, hr⟩ := hr
    replace hr := ob_eq hr; obtain ⟨q', h7, hr⟩ := hr
    have r1 := opdG ht hg h1
    have r2 := opdG ht hg h2
    have r3 := opdG ht hg h3
    have hk := toV_ok h4 r2
    rw [hk] at r2
    obtain ⟨es, clock⟩ := q
    obtain ⟨es', clock'⟩ := q'
    obtain ⟨id, bk, C, ms, rfl, e1, a1, a2, a3, a4⟩ := getM_ok l h5 r1
    cases hr
    obtain ⟨ms', b1, b2⟩ := putM_ok h0 a4 r2 r3 h7
    obtain ⟨c1, c2⟩ := l.put (x := .map ms' clock') (o' := .mp es' clock') a2 a1 (keeps_putObj w bk _) (World.putObj_heap_same (lt_block a3)) (.mp b1)
    rw [← hup_set] at c1 c2
    refine ⟨ρ, undef, _, .t .nil, c1, c2, .inr ⟨rfl, ?_⟩⟩
    rw [hex]
    have := b2 bk w a3
    have hm : (Instr.mapUpdate t (e.eval x) (e.eval y) (e.eval z)).run P w = .ok () (w.putObj bk (.map ms' clock')) := by
      rw [e1, hk, ← this]
      simp only [Instr.mapUpdate, Sem.run_bind, run_underlying hu, Result.andThen_ok, run_getM a3, runS_ok h6]
      rfl
    rw [hm]; rfl
  · cases hr

/-! ## entries -/
noncomputable def opMe (P : Program) (G : Nat) (tm : En) (t : TypeId) (x y : Operand) (h : Tr AO) (nx : Nat) : Option (AV × Tr AO × Nat) :=
  match P.underlying t with
  | some (.map kt el) => iff' (udA P kt) (ob (opd G tm x) fun c => ob (opd G tm y) fun d => ob (toV d) fun k => ob (getM h c) fun q =>
      ob (runS P (Instr.checkKey false 10000 kt k)) fun _ => ob (fnd P kt k q.1 0) fun r => match c, r with
        | .m id, some p => ob (toV p.2.k) fun k0 => iff' (Instr.sameBits 10000 k0 k) (some (.t (.cons p.2.v (.cons (.i .i64 (.ofNat p.2.b)) .nil)), h.set id (.mp (q.1.set p.1 ⟨d, p.2.v, p.2.b⟩) q.2), nx))
        | .m id, none => ob (zeA P el) fun z => some (.t (.cons z (.cons (.i .i64 (.ofNat q.2)) .nil)), h.set id (.mp (q.1 ++ [⟨d, z, q.2⟩]) (q.2 + 1)), nx)
        | _, _ => none)
  | _ => none
theorem opMe_ok (ht : TR ρ tm nt e.tmps) (hg : ∀ g, g < G → ρ g = some (g, 0)) {o : Oper} {t : TypeId} {x y : Operand} (ho : o.op = .mapEntry t x y) : ActOk P G e o ρ (opMe P G tm t x y) := by
  intro h nx r h' nx' hr w l
  have hex : (execOp e.eval o).run P w = ((Instr.mapEntry t (e.eval x) (e.eval y)).run P w).andThen fun v w' => .ok (.value v) w' := by simp [execOp, ho]
  unfold opMe at hr
  split at hr
  · rename_i kt el hu
    replace hr := iff_eq hr; obtain ⟨h0, hr⟩ := hr
    obtain ⟨d0, hd0⟩ := ud_of h0
    replace hr := ob_eq hr; obtain ⟨c, h1, hr⟩ := hr
    replace hr := ob_eq hr; obtain ⟨d, h2, hr⟩ := hr
    replace hr := ob_eq hr; obtain ⟨k, h4, hr⟩ := hr
    replace hr := ob_eq hr; obtain ⟨q, h5, hr⟩ := hr
    replace hr := ob_eq hr; obtain ⟨_, h6, hr⟩ := hr
    replace hr := ob_eq hr; obtain ⟨r', h7, hr⟩ := hr
    have r1 := opdG ht hg h1
    have r2 := opdG ht hg h2
    have hk := toV_ok h4 r2
    rw [hk] at r2
    obtain ⟨es, clock⟩ := q
    obtain ⟨id, bk, C, ms, rfl, e1, a1, a2, a3, a4⟩ := getM_ok l h5 r1
    obtain ⟨q', g1, g2⟩ := find_ok hd0 a4 h7
    cases r' with
    | none =>
      replace hr := ob_eq hr; obtain ⟨z, h8, hr⟩ := hr
      cases hr
      obtain ⟨zv, hz, hzr⟩ := zeA_ok (ρ := ρ) h8
      have g1' : q' = none := g1
      subst g1'
      obtain ⟨c1, c2⟩ := l.put (x := .map (ms.push ⟨k, zv, clock⟩) (clock + 1)) (o' := .mp (es ++ [⟨d, z, clock⟩]) (clock + 1)) a2 a1 (keeps_putObj w bk _) (World.putObj_heap_same (lt_block a3))
        (.mp (by rw [Array.toList_push]; exact a4.app r2 hz rfl))
      rw [← hup_set] at c1 c2
      refine ⟨ρ, _, _, .t (.cons hz (.cons (.i _ _) .nil)), c1, c2, .inl ?_⟩
      rw [hex, e1, hk]
      simp [Instr.mapEntry, run_underlying hu, run_getM a3, runS_ok h6, g2, hzr, run_setM _ a3, goInt]
    | some p =>
      replace hr := ob_eq hr; obtain ⟨k0, h8, hr⟩ := hr
      replace hr := iff_eq hr; obtain ⟨h9, hr⟩ := hr
      cases hr
      obtain ⟨j, q⟩ := p
      obtain ⟨m, _, f1, f2, f3, f4, f5, g1'⟩ := g1
      subst g1'
      have hk0 := toV_ok h8 f3
      have f2' : ms[j]? = some m := by simpa using f2
      have hst : (Instr.keyThatStays m.key k).run P w = .ok k w := by
        rw [hk0]; unfold Instr.keyThatStays; rw [if_pos h9]; rfl
      obtain ⟨c1, c2⟩ := l.put (x := .map (ms.modify j fun e => { e with key := k }) clock) (o' := .mp (es.set j ⟨d, q.v, q.b⟩) clock) a2 a1 (keeps_putObj w bk _) (World.putObj_heap_same (lt_block a3))
        (.mp (by rw [modify_set ms j m _ (by simpa using f2)]; exact a4.set (q := ⟨d, q.v, q.b⟩) (m := { m with key := k }) r2 f4 f5 j))
      rw [← hup_set] at c1 c2
      refine ⟨ρ, .tuple #[m.val, .int .i64 (m.born : Int)], _, ?_, c1, c2, .inl ?_⟩
      · rw [f5]; exact .t (.cons f4 (.cons (.i _ _) .nil))
      · rw [hex, e1, hk]
        simp [Instr.mapEntry, run_underlying hu, run_getM a3, runS_ok h6, g2, f2', hst, run_setM _ a3, goInt]
  · cases hr
noncomputable def bornA (es : List ME) (n : Nat) : Nat → Option (Nat × ME) :=
  List.rec (motive := fun _ => Nat → Option (Nat × ME)) (fun _ => none) (fun q _ ih i => Bool.rec (motive := fun _ => Option (Nat × ME)) (ih (i + 1)) (some (i, q)) (Nat.beq q.b n)) es
theorem bornA_ok {es : List ME} {ms : List MapEntry} (hm : MR ρ es ms) {n : Nat} : ∀ {i j : Nat} {q : ME}, bornA es n i = some (j, q) →
    ∃ m, i ≤ j ∧ ms.findIdx? (fun e => (e.born : Int) == (n : Int)) = some (j - i) ∧ ms[j - i]? = some m ∧ R ρ q.k (.v m.key) ∧ R ρ q.v (.v m.val) ∧ m.born = q.b ∧ ms.find? (fun e => e.born == n) = some m := by
  induction hm with
  | nil => intro i j q h; cases h
  | @cons q0 m es ms hk hv hb _ ih =>
    intro i j q h
    change Bool.rec (motive := fun _ => Option (Nat × ME)) (bornA es n (i + 1)) (some (i, q0)) (Nat.beq q0.b n) = some (j, q) at h
    cases hc : Nat.beq q0.b n with
    | true =>
      rw [hc] at h; cases h
      have := Nat.eq_of_beq_eq_true hc
      have e1 : m.born = n := hb.trans this
      exact ⟨m, Nat.le_refl _, by simp [List.findIdx?_cons, e1], by simp, hk, hv, hb, by simp [e1]⟩
    | false =>
      rw [hc] at h
      have e1 : ¬ m.born = n := fun e => by rw [hb] at e; subst e; simp at hc
      obtain ⟨m', b1, b2, b3, b4, b5, b6, b7⟩ := ih h
      refine ⟨m', by omega, ?_, ?_, b4, b5, b6, ?_⟩
      · rw [List.findIdx?_cons]
        have : ((m.born : Int) == (n : Int)) = false := by simp; omega
        rw [this, b2]; simp; omega
      · rw [show j - i = (j - (i + 1)) + 1 by omega]; simpa using b3
      · simp [e1, b7]
noncomputable def opEs (P : Program) (G : Nat) (tm : En) (x y z : Operand) (h : Tr AO) (nx : Nat) : Option (AV × Tr AO × Nat) :=
  ob (opd G tm x) fun c => ob (opd G tm y) fun d => ob (opd G tm z) fun u => ob (getM h c) fun q => match c, d with
    | .m id, .i _ (.ofNat n) => ob (bornA q.1 n 0) fun p => some (.t .nil, h.set id (.mp (q.1.set p.1 ⟨p.2.k, u, p.2.b⟩) q.2), nx)
    | _, _ => none
theorem opEs_ok (ht : TR ρ tm nt e.tmps) (hg : ∀ g, g < G → ρ g = some (g, 0)) {o : Oper} {t : TypeId} {x y z : Operand} (ho : o.op = .entryStore t x y z) : ActOk P G e o ρ (opEs P G tm x y z) := by
  intro h nx r h' nx' hr w l
  have hex : (execOp e.eval o).run P w = ((Instr.entryStore t (e.eval x) (e.eval y) (e.eval z)).run P w).andThen fun v w' => .ok .skip w' := by simp [execOp, ho]
  replace hr := ob_eq hr; obtain ⟨c, h1, hr⟩ := hr
  replace hr := ob_eq hr; obtain ⟨d, h2, hr⟩ := hr
  replace hr := ob_eq hr; obtain ⟨u, h3, hr⟩ := hr
  replace hr := ob_eq hr; obtain ⟨q, h4, hr⟩ := hr
  have r1 := opdG ht hg h1
  have r2 := opdG ht hg h2
  have r3 := opdG ht hg h3
  obtain ⟨es, clock⟩ := q
  obtain ⟨id, bk, C, ms, rfl, e1, a1, a2, a3, a4⟩ := getM_ok l h4 r1
  split at hr
  · rename_i id' k n hid
    cases hid
    replace hr := ob_eq hr; obtain ⟨p, h5, hr⟩ := hr
    cases hr
    obtain ⟨j, q⟩ := p
    obtain ⟨m, _, b2, b3, b4, b5, b6, _⟩ := bornA_ok a4 h5
    generalize hyv : e.eval y = vy at r2
    cases r2
    obtain ⟨c1, c2⟩ := l.put (x := .map (ms.modify j fun q => { q with val := e.eval z }) clock) (o' := .mp (es.set j ⟨q.k, u, q.b⟩) clock) a2 a1 (keeps_putObj w bk _) (World.putObj_heap_same (lt_block a3))
      (.mp (by rw [modify_set ms j m _ (by simpa using b3)]; exact a4.set (q := ⟨q.k, u, q.b⟩) (m := { m with val := e.eval z }) b4 r3 b6 j))
    rw [← hup_set] at c1 c2
    refine ⟨ρ, undef, _, .t .nil, c1, c2, .inr ⟨rfl, ?_⟩⟩
    rw [hex, e1, hyv]
    have b2' : ms.findIdx? (fun e => (e.born : Int) == (n : Int)) = some j := by
      cases ms with
      | mk l => simpa using b2
    simp [Instr.entryStore, run_getM a3, asInt, asIntOf, b2', run_setM _ a3]
  · cases hr
end

end Go.Proofs.YthlphddehdjfjaaGreatDoor
