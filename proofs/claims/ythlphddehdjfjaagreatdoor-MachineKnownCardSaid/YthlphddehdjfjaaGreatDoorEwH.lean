/- A reading of closed calls that the kernel can run: rows that grow, builtins. -/
import Derived.Test.YthlphddehdjfjaaGreatDoorEwG
namespace Go.Proofs.YthlphddehdjfjaaGreatDoor
open Go.RowKit
set_option linter.unusedVariables false
set_option linter.unusedSimpArgs false
set_option linter.unusedSectionVars false

def hdel (h : Hp') (i : Nat) : Hp' := fun j => if j = i then none else h j
theorem hdel_del (t : Tr AO) (i : Nat) : (t.del i).get = hdel t.get i := funext fun j => Tr.get_del t i j
theorem hdel_sub {h : Hp'} {i : Nat} : ∀ j o, hdel h i j = some o → h j = some o := fun j o e => by
  unfold hdel at e
  split at e
  · cases e
  · exact e
section
variable {G nx : Nat} {ρ : Rn} {h : Hp'} {w w' : World}
/-- a block under a new name -/
theorem Lay.move (l : Lay G ρ h nx w) {i bk C : Nat} {o o' : AO} {x : Obj} (e : h i = some o) (r : ρ i = some (bk, C)) (hk : Keeps (fun z => z = bk) w w') (hx : w'.heap[bk]? = some x) (ho : OR (ρ.up nx (bk, C)) C o' x) :
    Lay G (ρ.up nx (bk, C)) (hup (hdel h i) nx o') (nx + 1) w' ∧ Nx ρ h nx w (ρ.up nx (bk, C)) (hup (hdel h i) nx o') (nx + 1) w' := by
  have hle : ρ.le (ρ.up nx (bk, C)) := Rn.le_up _ (l.top nx (Nat.le_refl _))
  have hold : ∀ j, j ≠ nx → (ρ.up nx (bk, C)) j = ρ j := fun j hj => if_neg hj
  have hnew : hup (hdel h i) nx o' nx = some o' := if_pos rfl
  have hin : i ≠ nx := fun e' => by rw [e'] at r; rw [l.top nx (Nat.le_refl _)] at r; cases r
  have hho : ∀ j q, j ≠ nx → hup (hdel h i) nx o' j = some q → h j = some q ∧ j ≠ i := fun j q hj eq => by
    unfold hup at eq
    rw [if_neg hj] at eq
    refine ⟨hdel_sub _ _ eq, fun e' => ?_⟩
    unfold hdel at eq
    rw [if_pos e'] at eq; cases eq
  refine ⟨⟨fun j q ej => ?_, fun j j' q q' b D D' ej ej' rj rj' => ?_, fun j hj => ?_, fun g hg => hle _ _ (l.glb g hg)⟩, ⟨hle, hk.mono (fun z _ hz => by subst hz; exact ⟨i, o, C, e, r⟩), fun b hb ⟨j, q, D, ej, rj⟩ => ?_, fun k hk => hold k (by omega), Nat.le_succ _⟩⟩
  · by_cases hj : j = nx
    · subst hj
      rw [hnew] at ej; cases ej
      exact ⟨bk, C, x, Rn.up_same _ _ _, hx, ho⟩
    · obtain ⟨ej, hji⟩ := hho j q hj ej
      obtain ⟨b', D, y, h1, h2, h3⟩ := l.obj j q ej
      exact ⟨b', D, y, hle _ _ h1, block_keep h2 hk (fun hb => hji (by have hb' : b' = bk := hb; subst hb'; exact l.inj j i q o b' D C ej e h1 r)), h3.mono hle⟩
  · by_cases hj : j = nx <;> by_cases hj' : j' = nx
    · rw [hj, hj']
    · subst hj
      obtain ⟨ej', hji⟩ := hho j' q' hj' ej'
      rw [hold j' hj'] at rj'
      rw [Rn.up_same] at rj; cases rj
      exact absurd (l.inj j' i q' o _ D' C ej' e rj' r) hji
    · subst hj'
      obtain ⟨ej, hji⟩ := hho j q hj ej
      rw [hold j hj] at rj
      rw [Rn.up_same] at rj'; cases rj'
      exact absurd (l.inj j i q o _ D C ej e rj r) hji
    · rw [hold j hj] at rj; rw [hold j' hj'] at rj'
      exact l.inj j j' q q' b D D' (hho j q hj ej).1 (hho j' q' hj' ej').1 rj rj'
  · rw [hold j (by omega)]; exact l.top j (by omega)
  · by_cases hj : j = nx
    · subst hj
      rw [Rn.up_same] at rj; cases rj
      exact ⟨i, o, C, e, r⟩
    · rw [hold j hj] at rj
      exact ⟨j, q, D, (hho j q hj ej).1, rj⟩
end

theorem exec_builtin {o : Oper} {b : Builtin} {args : Array Operand} {ts : Array TypeId} (ho : o.op = .call ⟨.builtin b, args, ts⟩) (f : Operand → Value) :
    ∃ cs, execOp f o = builtin b ts o.type cs (args.map f) := ⟨_, by simp only [execOp, ho, resolve]; rfl⟩

/-! ## rows as sources -/
noncomputable def lnA (c : AV) : Option Nat := match c with
  | .sl _ _ n _ => some n
  | .gs _ n => some n
  | .ns => some 0
  | _ => none
noncomputable def srcA (h : Tr AO) (c : AV) (n z : Nat) : Option AV := match c with
  | .sl id o _ _ => ob (tbl h id) fun u => u.row (n * z) o
  | .gs id _ => ob (tbl h id) fun u => u.row (n * z) 0
  | .ns => iff' (Nat.beq n 0) (some .nil)
  | _ => none
theorem src_ok {P : Program} {G nx : Nat} {ρ : Rn} {h : Tr AO} {w : World} {c l : AV} {v : Value} {n z : Nat} (hl : Lay G ρ h.get nx w) (e : srcA h c n z = some l) (r : R ρ c (.v v)) :
    ∃ vs, R ρ l (.l vs) ∧ vs.length = n * z ∧ (∀ v ∈ vs, v.oneCell' = true) ∧ ∀ w', (∀ a, w'.cell? a = w.cell? a) → (Builtin.firstCells z n v).run P w' = .ok ⟨vs⟩ w' := by
  unfold srcA at e
  split at e
  · replace e := ob_eq e; obtain ⟨u, h1, e⟩ := e
    cases r with
    | sl hp hc =>
      obtain ⟨cs, ty, q1, q2⟩ := tbl_ok hl h1 hp
      obtain ⟨vs, f1, f2, f3, f4⟩ := row_ok q2 _ _ e
      refine ⟨vs, f2, f1, f3, fun w' hw => ?_⟩
      have : (loadCells ⟨_, _, none⟩ vs.length).run P w' = .ok ⟨vs⟩ w' := run_loadCells_list w' _ vs fun j v hv => by rw [hw, addr_add]; exact cell_at q1 (f4 j v hv)
      rw [f1] at this
      exact this
  · replace e := ob_eq e; obtain ⟨u, h1, e⟩ := e
    cases r with
    | gs hp hc =>
      obtain ⟨cs, ty, q1, q2⟩ := tbl_ok hl h1 hp
      obtain ⟨vs, f1, f2, f3, f4⟩ := row_ok q2 _ _ e
      refine ⟨vs, f2, f1, f3, fun w' hw => ?_⟩
      have : (loadCells ⟨_, 0, none⟩ vs.length).run P w' = .ok ⟨vs⟩ w' := run_loadCells_list w' _ vs fun j v hv => by rw [hw, addr_add]; exact cell_at q1 (f4 j v hv)
      rw [f1] at this
      exact this
  · replace e := iff_eq e; obtain ⟨h1, e⟩ := e
    cases e
    cases r
    have := Nat.eq_of_beq_eq_true h1
    subst this
    exact ⟨[], .nil, by simp, fun v hv => (by cases hv), fun w' _ => rfl⟩
  · cases e
theorem lnA_ok {P : Program} {ρ : Rn} {c : AV} {v : Value} {n : Nat} (e : lnA c = some n) (r : R ρ c (.v v)) (w : World) : (Builtin.lenOf v).run P w = .ok n w := by
  unfold lnA at e
  split at e <;> cases e <;> cases r <;> rfl

/-! ## growth -/
theorem growBy_le (n : Nat) : ∀ (r c : Nat), c ≤ n + (n + 768) / 4 → Builtin.growBy n r c ≤ n + (n + 768) / 4
  | 0, c, h => h
  | r + 1, c, h => by
    unfold Builtin.growBy
    split
    · exact h
    · exact growBy_le n r _ (by omega)
theorem nsc_le {n c : Nat} (h : c < n) : Builtin.nextslicecap n c ≤ 2 * n + 192 := by
  unfold Builtin.nextslicecap
  split
  · omega
  · split
    · omega
    · have := growBy_le n 4 c (by omega)
      omega
theorem size_zeroCells (z : Array Value) (n : Nat) : (Builtin.zeroCells z n).size = n * z.size := by simp [Builtin.zeroCells]
/-- the limits of a growth -/
noncomputable def grwA (P : Program) (el : TypeId) (need z : Nat) : Bool := match P.info? el with
  | some i => Option.rec (motive := fun _ => Bool) false (fun c => Bool.and (Nat.beq c.cells.lng z) (Bool.and (Nat.ble ((2 * need + 192) * i.bytes) 281474976710656) (Nat.ble need 4611686018427387904))) (zeA P el)
  | none => false
/-- the value of append where the row must grow -/
theorem run_grow {P : Program} {sT xT ty el el' : TypeId} {need z len n cap : Nat} {u : Value} {base : Option Addr} {old new : List Value} {w : World} (hs : P.underlying sT = some (.slice el)) (hx : P.underlying xT = some (.slice el'))
    (hz : szA P el = some z) (hgr : grwA P el need z = true) (hneed : need = len + n) (hlt : cap < need) (hu : ∀ w, (Builtin.lenOf u).run P w = .ok n w)
    (ho : ∀ w', (∀ a, w'.cell? a = w.cell? a) → (Builtin.firstCells z len (.slice base len cap)).run P w' = .ok ⟨old⟩ w') (hn : ∀ w', (∀ a, w'.cell? a = w.cell? a) → (Builtin.firstCells z n u).run P w' = .ok ⟨new⟩ w')
    (lo : old.length = len * z) (ln : new.length = n * z) :
    ∃ (C : Nat) (rest : List Value), need ≤ C ∧ (old ++ new ++ rest).length = C * z ∧
      (Builtin.append_ #[sT, xT] ty #[.slice base len cap, u]).run P w = .ok (.slice (some ⟨w.heap.size, 0, none⟩) need C) (w.drew.alloc (.cells ⟨old ++ new ++ rest⟩ el)) := by
  unfold grwA at hgr
  split at hgr
  · rename_i i hi
    cases hze : zeA P el with
    | none => rw [hze] at hgr; cases hgr
    | some c =>
      rw [hze] at hgr
      replace hgr : (Bool.and (Nat.beq c.cells.lng z) (Bool.and (Nat.ble ((2 * need + 192) * i.bytes) 281474976710656) (Nat.ble need 4611686018427387904))) = true := hgr
      simp only [Bool.and_eq_true, Nat.ble_eq] at hgr
      obtain ⟨g1, g2, g3⟩ := hgr
      obtain ⟨zv, hzv, hzr⟩ := zeA_ok (ρ := fun _ => none) hze
      have hzs : zv.cells.size = z := by rw [← Array.length_toList, hzv.cells.lng]; exact Nat.eq_of_beq_eq_true g1
      obtain ⟨C, hC⟩ : ∃ C, (Question.appendCap need cap el).cut (w.tape w.drawn (.appendCap need cap el)) = C := ⟨_, rfl⟩
      have hCn : need ≤ C := by rw [← hC]; exact Nat.le_add_right _ _
      refine ⟨C, (Builtin.zeroCells zv.cells (C - need)).toList, hCn, ?_, ?_⟩
      · simp only [List.length_append, lo, ln, Array.length_toList, size_zeroCells, hzs]
        rw [← Nat.add_mul, ← hneed, ← Nat.add_mul]
        congr 1
        omega
      · have n1 : ¬ len + n ≤ cap := by omega
        have n2 : ¬ ((len + n : Nat) : Int) > IntKind.i64.max := by rw [IntKind.max_i64]; omega
        have n3 : ¬ Builtin.nextslicecap (len + n) cap * i.bytes > 2 ^ 48 := by
          have h1 := nsc_le (n := len + n) (c := cap) (by omega)
          have h2 := Nat.mul_le_mul_right i.bytes h1
          rw [← hneed] at h2 ⊢
          omega
        have hti : ∀ w, (typeInfo el).run P w = .ok i w := fun w => by simp [typeInfo, hi]
        subst hneed
        have hcell : ∀ a, w.drew.cell? a = w.cell? a := fun a => rfl
        have hfo := ho w.drew hcell
        have hfn := hn w.drew hcell
        have hq : (Question.appendCap (len + n) cap el).forced = false := rfl
        simp only [Builtin.append_, Sem.run_bind, run_underlying hs, run_underlying hx, Result.andThen_ok, szA_ok hz, Sem.run_pure, Bool.false_eq_true, if_false, hu, n1, n2, n3, hti, false_and, run_choose, hq, hC, run_askRoom, World.drew_eq, hfo, hfn, hzr, newRow, run_newObj,
          Bool.not_false, if_true, List.getElem?_toArray, List.getElem?_cons_zero, List.getElem?_cons_succ]
        rw [show (⟨old⟩ ++ ⟨new⟩ ++ Builtin.zeroCells zv.cells (C - (len + n)) : Array Value) = ⟨old ++ new ++ (Builtin.zeroCells zv.cells (C - (len + n))).toList⟩ from Array.ext' (by simp)]
        rfl
  · cases hgr

/-! ## append -/
/-- a row that has grown, of elements of a type -/
noncomputable def grO (h : Tr AO) (id z : Nat) (el : TypeId) : Bool := match h.get id with
  | some (.gr sz ty _) => Bool.and (Nat.beq sz z) (Nat.beq ty el)
  | _ => false
theorem CR_pre {ρ : Rn} {l : AV} {vs : List Value} {cs : Array Value} (h : R ρ l (.l vs)) (h1 : ∀ v ∈ vs, v.oneCell' = true) (hc : ∀ (j : Nat) (v : Value), vs[j]? = some v → cs[j]? = some v) (f : Nat) : CR ρ (l.tab f) cs := by
  intro j c e
  obtain ⟨v, e1, e2⟩ := h.nth (tab_get f l j c e)
  exact ⟨v, hc j v e1, h1 v (List.mem_of_getElem? e1), e2⟩
noncomputable def growR (P : Program) (el : TypeId) (c new : AV) (need len z : Nat) (h h2 : Tr AO) (nx : Nat) : Option (AV × Tr AO × Nat) :=
  iff' (grwA P el need z) (ob (srcA h c len z) fun old => ((old.app new).tab 40).fc fun u => (h2.set nx (.gr z el u)).fc fun h' => fN (nx + 1) fun nx' => some (.gs nx need, h', nx'))
noncomputable def opAp (P : Program) (G : Nat) (tm : En) (ts : Array TypeId) (x y : Operand) (h : Tr AO) (nx : Nat) : Option (AV × Tr AO × Nat) :=
  match ts.toList with
  | [sT, xT] => match P.underlying sT, P.underlying xT with
    | some (.slice el), some (.slice _) => ob (opd G tm x) fun c => ob (opd G tm y) fun d => ob (szA P el) fun z => ob (lnA c) fun len => ob (lnA d) fun n => ob (srcA h d n z) fun new => fN (len + n) fun need => match c with
      | .sl id o _ cap => Bool.rec (motive := fun _ => Option (AV × Tr AO × Nat)) (growR P el c new need len z h h nx)
          (Bool.rec (motive := fun _ => Option (AV × Tr AO × Nat)) (ob (layA h id (o + len * z) new) fun h' => some (.sl id o need cap, h', nx)) (some (.sl id o need cap, h, nx)) (Nat.beq new.lng 0)) (Nat.ble need cap)
      | .ns => Bool.rec (motive := fun _ => Option (AV × Tr AO × Nat)) (growR P el c new need len z h h nx) (some (.ns, h, nx)) (Nat.beq n 0)
      | .gs id _ => Bool.rec (motive := fun _ => Option (AV × Tr AO × Nat)) (iff' (grO h id z el) (growR P el c new need len z h (h.del id) nx)) (some (.gs id len, h, nx)) (Nat.beq n 0)
      | _ => none
    | _, _ => none
  | _ => none
theorem R.nil_of {ρ : Rn} {l : AV} {vs : List Value} (h : R ρ l (.l vs)) (h0 : l.lng = 0) : vs = [] := List.eq_nil_of_length_eq_zero (h.lng.trans h0)
section
variable {P : Program} {G nt : Nat} {ρ : Rn} {tm : En} {e : Act}
theorem opAp_ok (ht : TR ρ tm nt e.tmps) (hg : ∀ g, g < G → ρ g = some (g, 0)) {o : Oper} {ts : Array TypeId} {x y : Operand} (ho : o.op = .call ⟨.builtin .append, #[x, y], ts⟩) : ActOk P G e o ρ (opAp P G tm ts x y) := by
  intro h nx r h' nx' hr w l
  obtain ⟨cs0, hex⟩ := exec_builtin ho e.eval
  have hrun : ∀ v w', (Builtin.append_ ts o.type #[e.eval x, e.eval y]).run P w = .ok v w' → Ends P e o w v w' := fun v w' hv => .inl (by
    rw [hex]
    have : (#[x, y] : Array Operand).map e.eval = #[e.eval x, e.eval y] := by simp
    rw [this]
    simp [builtin, hv])
  unfold opAp at hr
  split at hr
  · rename_i sT xT hts
    have hts' : ts = #[sT, xT] := Array.ext' hts
    subst hts'
    split at hr
    · rename_i el el' hu hu'
      replace hr := ob_eq hr; obtain ⟨c, h1, hr⟩ := hr
      replace hr := ob_eq hr; obtain ⟨d, h2, hr⟩ := hr
      replace hr := ob_eq hr; obtain ⟨z, h3, hr⟩ := hr
      replace hr := ob_eq hr; obtain ⟨len, h4, hr⟩ := hr
      replace hr := ob_eq hr; obtain ⟨n, h5, hr⟩ := hr
      replace hr := ob_eq hr; obtain ⟨new, h6, hr⟩ := hr
      rw [fN_eq] at hr
      have r1 := opdG ht hg h1
      have r2 := opdG ht hg h2
      obtain ⟨ns, n1, n2, n3, n4⟩ := src_ok (P := P) l h6 r2
      generalize e.eval x = xv at r1 hrun
      generalize e.eval y = yv at r2 hrun n4
      have hlen := fun w => lnA_ok (P := P) h5 r2 w
      -- the row grows
      have grow : ∀ (h2 : Tr AO) (base : Option Addr) (cap : Nat), xv = .slice base len cap → cap < len + n → (∀ i q, h2.get i = some q → h.get i = some q) → growR P el c new (len + n) len z h h2 nx = some (r, h', nx') →
          ∃ ρ' v w', R ρ' r (.v v) ∧ Lay G ρ' h'.get nx' w' ∧ Nx ρ h.get nx w ρ' h'.get nx' w' ∧ Ends P e o w v w' := fun hh base cap hxv hlt hsub hgr => by
        replace hgr := iff_eq hgr; obtain ⟨g1, hgr⟩ := hgr
        replace hgr := ob_eq hgr; obtain ⟨old, g2, hgr⟩ := hgr
        rw [Tr.fc_eq, Tr.fc_eq, fN_eq] at hgr
        cases hgr
        obtain ⟨os, o1, o2, o3, o4⟩ := src_ok (P := P) l g2 r1
        rw [hxv] at o4
        obtain ⟨C, rest, k1, k2, k3⟩ := run_grow (ty := o.type) hu hu' h3 g1 rfl hlt hlen o4 n4 o2 n2
        have l1 := (l.sub hsub).same ((Keeps.refl (fun _ => False) w).drew)
        have hnx := l.top nx (Nat.le_refl _)
        have hle := Rn.le_up (w.drew.heap.size, C) hnx
        obtain ⟨m1, m2⟩ := l1.alloc (o := .gr z el ((old.app new).tab 40)) (x := .cells ⟨os ++ ns ++ rest⟩ el) C
          (.gr (by simpa using k2) ((CR_pre (o1.app n1) (fun v hv => by rcases List.mem_append.1 hv with h | h; exact o3 v h; exact n3 v h) (fun j v hv => by
            have hj := (List.getElem?_eq_some_iff.1 hv).1
            rw [show (⟨os ++ ns ++ rest⟩ : Array Value)[j]? = (os ++ ns ++ rest)[j]? by simp, List.getElem?_append_left hj]; exact hv) 40).mono hle))
        rw [← hup_set] at m1 m2
        refine ⟨_, _, _, .gs (Rn.up_same _ _ _) k1, m1, ((Nx.sub hsub).trans ((Nx.same ((Keeps.refl (fun _ => False) w).drew)).trans m2)), hrun _ _ ?_⟩
        rw [hxv]; exact k3
      split at hr
      · -- a row whose room is known
        rename_i id off len' cap
        cases h4
        cases r1 with
        | sl hp hc =>
          rename_i bk C
          cases hb : Nat.ble (len + n) cap with
          | false =>
            rw [hb] at hr
            exact grow h _ _ rfl (by have : ¬ len + n ≤ cap := fun hle => by rw [Nat.ble_eq_true_of_le hle] at hb; exact Bool.noConfusion hb
                                     omega) (fun _ _ h => h) hr
          | true =>
            rw [hb] at hr
            have hle := Nat.le_of_ble_eq_true hb
            have hfn := n4 w (fun _ => rfl)
            have run0 : ∀ w', (storeCells ⟨bk, off + len * z, none⟩ ns).run P w = .ok () w' → (Builtin.append_ #[sT, xT] o.type #[.slice (some ⟨bk, off, none⟩) len cap, yv]).run P w = .ok (.slice (some ⟨bk, off, none⟩) (len + n) cap) w' := fun w' hw => by
              simp only [Builtin.append_, Sem.run_bind, run_underlying hu, run_underlying hu', Result.andThen_ok, szA_ok h3, Sem.run_pure, Bool.false_eq_true, if_false, hlen, hle, Bool.not_false, if_true, hfn, addr_add, hw,
                List.getElem?_toArray, List.getElem?_cons_zero, List.getElem?_cons_succ]
            cases hb0 : Nat.beq new.lng 0 with
            | true =>
              rw [hb0] at hr; cases hr
              have := R.nil_of n1 (Nat.eq_of_beq_eq_true hb0)
              subst this
              exact ⟨ρ, _, w, .sl hp hle, l, Nx.refl _ _ _, hrun _ _ (run0 w rfl)⟩
            | false =>
              rw [hb0] at hr
              replace hr : (ob (layA h id (off + len * z) new) fun h' => some (AV.sl id off (len + n) cap, h', nx)) = some (r, h', nx') := hr
              replace hr := ob_eq hr; obtain ⟨h'', h7, hr⟩ := hr
              cases hr
              obtain ⟨w', a1, a2, a3⟩ := layA_ok (P := P) l h7 n1 hp
              exact ⟨ρ, _, w', .sl hp hle, a1, a2, hrun _ _ (run0 w' a3)⟩
      · cases h4
        cases r1 with
        | ns =>
          cases hb : Nat.beq n 0 with
          | false =>
            rw [hb] at hr
            have hn0 : n ≠ 0 := fun e => by subst e; exact Bool.noConfusion hb
            exact grow h _ _ rfl (by omega) (fun _ _ h => h) hr
          | true =>
            rw [hb] at hr; cases hr
            have := Nat.eq_of_beq_eq_true hb
            subst this
            have hfn := n4 w (fun _ => rfl)
            refine ⟨ρ, _, w, .ns, l, Nx.refl _ _ _, hrun _ _ ?_⟩
            simp only [Builtin.append_, Sem.run_bind, run_underlying hu, run_underlying hu', Result.andThen_ok, szA_ok h3, Sem.run_pure, Bool.false_eq_true, if_false, hlen, Nat.le_refl, Bool.not_false, if_true, hfn,
              List.getElem?_toArray, List.getElem?_cons_zero, List.getElem?_cons_succ, Nat.add_zero]
      · -- a row that has grown
        rename_i id len'
        cases h4
        cases r1 with
        | gs hp hc =>
          rename_i bk C
          cases hb : Nat.beq n 0 with
          | true =>
            rw [hb] at hr; cases hr
            have := Nat.eq_of_beq_eq_true hb
            subst this
            have hfn := n4 w (fun _ => rfl)
            have hns : ns = [] := List.eq_nil_of_length_eq_zero (by rw [n2]; omega)
            subst hns
            refine ⟨ρ, _, w, .gs hp hc, l, Nx.refl _ _ _, hrun _ _ ?_⟩
            simp only [Builtin.append_, Sem.run_bind, run_underlying hu, run_underlying hu', Result.andThen_ok, szA_ok h3, Sem.run_pure, Bool.false_eq_true, if_false, hlen, Nat.add_zero, hc, Bool.not_false, if_true, hfn, storeCells,
              List.getElem?_toArray, List.getElem?_cons_zero, List.getElem?_cons_succ]
          | false =>
            rw [hb] at hr
            replace hr := iff_eq hr; obtain ⟨g0, hr⟩ := hr
            by_cases hle : len + n ≤ C
            · -- in place
              replace hr := iff_eq hr; obtain ⟨g1, hgr⟩ := hr
              replace hgr := ob_eq hgr; obtain ⟨old, g2, hgr⟩ := hgr
              rw [Tr.fc_eq, Tr.fc_eq, fN_eq] at hgr
              cases hgr
              have hfn := n4 w (fun _ => rfl)
              unfold grO at g0
              split at g0
              · rename_i sz ty u0 hq
                rw [Bool.and_eq_true] at g0
                obtain rfl : sz = z := Nat.eq_of_beq_eq_true g0.1
                obtain rfl : ty = el := Nat.eq_of_beq_eq_true g0.2
                obtain ⟨x0, q1, q2⟩ := l.at hq hp
                cases q2 with
                | @gr _ _ _ cs hs hcr =>
                  replace g2 : (ob (tbl h id) fun u => u.row (len * sz) 0) = some old := g2
                  rw [show tbl h id = some u0 by unfold tbl; rw [hq]] at g2
                  obtain ⟨os, o2, o1, o3, o4⟩ := row_ok hcr _ _ g2
                  have hmul : (len + n) * sz ≤ C * sz := Nat.mul_le_mul_right _ hle
                  rw [Nat.add_mul] at hmul
                  have hst := run_storeCells_at P bk (len * sz) ty ns 0 cs w q1 (by rw [n2, hs]; omega) n3
                  obtain ⟨cs', hcs'⟩ : ∃ cs', (cs.toList.take (len * sz + 0) ++ ns ++ cs.toList.drop (len * sz + 0 + ns.length)).toArray = cs' := ⟨_, rfl⟩
                  rw [hcs'] at hst
                  have hsz : cs'.size = C * sz := by rw [← hcs', ← hs]; simp; omega
                  have hle0 := Rn.le_up (bk, C) (l.top nx (Nat.le_refl _))
                  obtain ⟨m1, m2⟩ := l.move (o' := .gr sz ty ((old.app new).tab 40)) (x := .cells cs' ty) hq hp (keeps_setRow w bk cs') (setRow_heap w bk cs cs' ty (0, 0) q1)
                    (.gr hsz ((CR_pre (o1.app n1) (fun v hv => by rcases List.mem_append.1 hv with h | h; exact o3 v h; exact n3 v h) (fun j v hv => by
                      have hj := (List.getElem?_eq_some_iff.1 hv).1
                      have ht : (cs.toList.take (len * sz + 0)).length = len * sz := by simp; omega
                      rw [← hcs', List.getElem?_toArray]
                      by_cases hjo : j < os.length
                      · rw [List.getElem?_append_left hjo] at hv
                        have h0 := o4 j v hv
                        rw [Nat.zero_add] at h0
                        rw [List.append_assoc, List.getElem?_append_left (by rw [ht]; omega), List.getElem?_take_of_lt (by omega)]
                        simpa using h0
                      · rw [List.getElem?_append_right (by omega)] at hv
                        have hjn := (List.getElem?_eq_some_iff.1 hv).1
                        rw [List.append_assoc, List.getElem?_append_right (by rw [ht]; omega), ht, ← o2, List.getElem?_append_left hjn]
                        exact hv) 40).mono hle0))
                  rw [← hdel_del, ← hup_set] at m1 m2
                  refine ⟨_, _, _, .gs (Rn.up_same _ _ _) hle, m1, m2, hrun _ _ ?_⟩
                  simp only [Builtin.append_, Sem.run_bind, run_underlying hu, run_underlying hu', Result.andThen_ok, szA_ok h3, Sem.run_pure, Bool.false_eq_true, if_false, hlen, hle, Bool.not_false, if_true, hfn, addr_add, Nat.zero_add, hst,
                    List.getElem?_toArray, List.getElem?_cons_zero, List.getElem?_cons_succ]
              · cases g0
            · exact grow (h.del id) _ _ rfl (by omega) (fun i q hq => by rw [hdel_del] at hq; exact hdel_sub _ _ hq) hr
      · cases hr
    · cases hr
  · cases hr
end

end Go.Proofs.YthlphddehdjfjaaGreatDoor
