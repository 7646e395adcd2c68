/- A reading of closed calls that the kernel can run: append to, or of, rows that are not known cell by cell. -/
import Derived.Test.YthlphddehdjfjaaGreatDoorEwH
namespace Go.Proofs.YthlphddehdjfjaaGreatDoor
open Go.RowKit
set_option linter.unusedVariables false
set_option linter.unusedSimpArgs false
set_option linter.unusedSectionVars false

/-- is a row there, known or not -/
noncomputable def rowB (h : Tr AO) (c : AV) (n z : Nat) : Bool := match c with
  | .gs id m => (match h.get id with
    | some (.gr sz _ _) => Bool.and (Nat.beq sz z) (Nat.beq n m)
    | _ => false)
  | .ns => Nat.beq n 0
  | .sl _ _ _ _ => Nat.beq n 0
  | _ => false
theorem src_ex {P : Program} {G nx : Nat} {ρ : Rn} {h : Tr AO} {w : World} {c : AV} {v : Value} {n z : Nat} (hl : Lay G ρ h.get nx w) (e : rowB h c n z = true) (r : R ρ c (.v v)) :
    ∃ vs : List Value, vs.length = n * z ∧ ∀ w', (∀ a, w'.cell? a = w.cell? a) → (Builtin.firstCells z n v).run P w' = .ok ⟨vs⟩ w' := by
  unfold rowB at e
  split at e
  · rename_i id m
    split at e
    · rename_i sz ty u hq
      rw [Bool.and_eq_true] at e
      obtain rfl : sz = z := Nat.eq_of_beq_eq_true e.1
      obtain rfl : n = m := Nat.eq_of_beq_eq_true e.2
      cases r with
      | gs hp hc =>
        obtain ⟨x0, q1, q2⟩ := hl.at hq hp
        cases q2 with
        | @gr _ _ _ cs hs hcr =>
          have hmul : n * sz ≤ cs.size := by rw [hs]; exact Nat.mul_le_mul_right _ hc
          have hl' : (cs.toList.take (n * sz)).length = n * sz := by simp; omega
          refine ⟨cs.toList.take (n * sz), hl', fun w' hw => ?_⟩
          have : (loadCells ⟨_, 0, none⟩ (cs.toList.take (n * sz)).length).run P w' = .ok ⟨cs.toList.take (n * sz)⟩ w' := run_loadCells_list w' _ (cs.toList.take (n * sz)) fun j v hv => by
            rw [hw, addr_add]
            refine cell_at q1 ?_
            rw [List.getElem?_take] at hv
            split at hv
            · simpa using hv
            · cases hv
          rw [hl'] at this
          exact this
    · cases e
  · have := Nat.eq_of_beq_eq_true e
    subst this
    cases r
    exact ⟨[], by simp, fun w' _ => rfl⟩
  · have := Nat.eq_of_beq_eq_true e
    subst this
    cases r with
    | sl hp hc =>
      refine ⟨[], by simp, fun w' _ => ?_⟩
      show (loadCells _ (0 * z)).run P w' = _
      rw [Nat.zero_mul]
      rfl
  · cases e
noncomputable def opApU (P : Program) (G : Nat) (tm : En) (ts : Array TypeId) (x y : Operand) (h : Tr AO) (nx : Nat) : Option (AV × Tr AO × Nat) :=
  match ts.toList with
  | [sT, xT] => match P.underlying sT, P.underlying xT with
    | some (.slice el), some (.slice _) => ob (opd G tm x) fun c => ob (opd G tm y) fun d => ob (szA P el) fun z => ob (lnA c) fun len => ob (lnA d) fun n => fN (len + n) fun need =>
        iff' (Bool.and (grwA P el need z) (rowB h c len z)) (match c with
          | .sl id o _ cap => iff' (Bool.and (rowB h d n z) (Nat.blt cap need)) ((h.set nx (.gr z el .e)).fc fun h' => fN (nx + 1) fun nx' => some (.gs nx need, h', nx'))
          | .gs id _ => ob (srcA h d n z) fun new => iff' (Bool.and (grO h id z el) (not (Nat.beq n 0))) (((h.del id).set nx (.gr z el .e)).fc fun h' => fN (nx + 1) fun nx' => some (.gs nx need, h', nx'))
          | _ => none)
    | _, _ => none
  | _ => none
theorem CR_e (ρ : Rn) (cs : Array Value) : CR ρ .e cs := fun j c e => by rw [Tr.get_e] at e; cases e
section
variable {P : Program} {G nt : Nat} {ρ : Rn} {tm : En} {e : Act}
theorem opApU_ok (ht : TR ρ tm nt e.tmps) (hg : ∀ g, g < G → ρ g = some (g, 0)) {o : Oper} {ts : Array TypeId} {x y : Operand} (ho : o.op = .call ⟨.builtin .append, #[x, y], ts⟩) : ActOk P G e o ρ (opApU P G tm ts x y) := by
  intro h nx r h' nx' hr w l
  obtain ⟨cs0, hex⟩ := exec_builtin ho e.eval
  have hrun : ∀ v w', (Builtin.append_ ts o.type #[e.eval x, e.eval y]).run P w = .ok v w' → Ends P e o w v w' := fun v w' hv => .inl (by
    rw [hex]
    have : (#[x, y] : Array Operand).map e.eval = #[e.eval x, e.eval y] := by simp
    rw [this]
    simp [builtin, hv])
  unfold opApU at hr
  split at hr
  · rename_i sT xT hts
    have hts' : ts = #[sT, xT] := Array.ext' hts
    subst hts'
    split at hr
    · rename_i el el' hu hu'
      replace hr := ob_eq hr; obtain ⟨c, h1, hr⟩ := hr
      replace hr := ob_eq hr; obtain ⟨d, h2, hr⟩ := hr
      replace hr := ob_eq hr; obtain ⟨z, h3, hr⟩ := hr
      replace hr := ob_eq hr; obtain ⟨len, h4, hr⟩ := hr
      replace hr := ob_eq hr; obtain ⟨n, h5, hr⟩ := hr
      rw [fN_eq] at hr
      replace hr := iff_eq hr; obtain ⟨hb0, hr⟩ := hr
      rw [Bool.and_eq_true] at hb0
      obtain ⟨hgw, hrow⟩ := hb0
      have r1 := opdG ht hg h1
      have r2 := opdG ht hg h2
      generalize e.eval x = xv at r1 hrun
      generalize e.eval y = yv at r2 hrun
      have hlen := fun w => lnA_ok (P := P) h5 r2 w
      obtain ⟨os, o2, o4⟩ := src_ex (P := P) l hrow r1
      have hnx := l.top nx (Nat.le_refl _)
      -- the row grows
      have grow : ∀ (h2 : Tr AO) (base : Option Addr) (cap : Nat) (ns : List Value), xv = .slice base len cap → cap < len + n → (∀ i q, h2.get i = some q → h.get i = some q) → ns.length = n * z →
          (∀ w', (∀ a, w'.cell? a = w.cell? a) → (Builtin.firstCells z n yv).run P w' = .ok ⟨ns⟩ w') →
          ∃ ρ' v w', R ρ' (.gs nx (len + n)) (.v v) ∧ Lay G ρ' (h2.set nx (.gr z el .e)).get (nx + 1) w' ∧ Nx ρ h.get nx w ρ' (h2.set nx (.gr z el .e)).get (nx + 1) w' ∧ Ends P e o w v w' := fun hh base cap ns hxv hlt hsub n2 n4 => by
        rw [hxv] at o4
        obtain ⟨C, rest, k1, k2, k3⟩ := run_grow (ty := o.type) hu hu' h3 hgw rfl hlt hlen o4 n4 o2 n2
        have l1 := (l.sub hsub).same ((Keeps.refl (fun _ => False) w).drew)
        obtain ⟨m1, m2⟩ := l1.alloc (o := .gr z el .e) (x := .cells ⟨os ++ ns ++ rest⟩ el) C (.gr (by simpa using k2) (CR_e _ _))
        rw [← hup_set] at m1 m2
        refine ⟨_, _, _, .gs (Rn.up_same _ _ _) k1, m1, ((Nx.sub hsub).trans ((Nx.same ((Keeps.refl (fun _ => False) w).drew)).trans m2)), hrun _ _ ?_⟩
        rw [hxv]; exact k3
      split at hr
      · rename_i id off len' cap
        cases h4
        replace hr := iff_eq hr; obtain ⟨hb, hr⟩ := hr
        rw [Bool.and_eq_true] at hb
        rw [Tr.fc_eq, fN_eq] at hr
        cases hr
        obtain ⟨ns, n2, n4⟩ := src_ex (P := P) l hb.1 r2
        cases r1 with
        | sl hp hc => exact grow h _ _ ns rfl (by have := hb.2; rw [Nat.blt_eq] at this; exact this) (fun _ _ h => h) n2 n4
      · rename_i id len'
        cases h4
        replace hr := ob_eq hr; obtain ⟨new, h6, hr⟩ := hr
        replace hr := iff_eq hr; obtain ⟨g0, hr⟩ := hr
        rw [Bool.and_eq_true] at g0
        obtain ⟨g0, hn0⟩ := g0
        rw [Tr.fc_eq, fN_eq] at hr
        cases hr
        obtain ⟨ns, n1, n2, n3, n4⟩ := src_ok (P := P) l h6 r2
        cases r1 with
        | gs hp hc =>
          rename_i bk C
          by_cases hle : len + n ≤ C
          · -- in place
            have hfn := n4 w (fun _ => rfl)
            unfold grO at g0
            split at g0
            · rename_i sz ty u0 hq
              rw [Bool.and_eq_true] at g0
              obtain rfl : sz = z := Nat.eq_of_beq_eq_true g0.1
              obtain rfl : ty = el := Nat.eq_of_beq_eq_true g0.2
              obtain ⟨x0, q1, q2⟩ := l.at hq hp
              cases q2 with
              | @gr _ _ _ cs hs hcr =>
                have hmul : (len + n) * sz ≤ C * sz := Nat.mul_le_mul_right _ hle
                rw [Nat.add_mul] at hmul
                have hst := run_storeCells_at P bk (len * sz) ty ns 0 cs w q1 (by rw [n2, hs]; omega) n3
                obtain ⟨cs', hcs'⟩ : ∃ cs', (cs.toList.take (len * sz + 0) ++ ns ++ cs.toList.drop (len * sz + 0 + ns.length)).toArray = cs' := ⟨_, rfl⟩
                rw [hcs'] at hst
                have hsz : cs'.size = C * sz := by rw [← hcs', ← hs]; simp; omega
                obtain ⟨m1, m2⟩ := l.move (o' := .gr sz ty .e) (x := .cells cs' ty) hq hp (keeps_setRow w bk cs') (setRow_heap w bk cs cs' ty (0, 0) q1) (.gr hsz (CR_e _ _))
                rw [← hdel_del, ← hup_set] at m1 m2
                refine ⟨_, _, _, .gs (Rn.up_same _ _ _) hle, m1, m2, hrun _ _ ?_⟩
                simp only [Builtin.append_, Sem.run_bind, run_underlying hu, run_underlying hu', Result.andThen_ok, szA_ok h3, Sem.run_pure, Bool.false_eq_true, if_false, hlen, hle, Bool.not_false, if_true, hfn, addr_add, Nat.zero_add, hst,
                  List.getElem?_toArray, List.getElem?_cons_zero, List.getElem?_cons_succ]
            · cases g0
          · exact grow (h.del id) _ _ ns rfl (by omega) (fun i q hq => by rw [hdel_del] at hq; exact hdel_sub _ _ hq) n2 n4
      · cases hr
    · cases hr
  · cases hr
/-- append, known or not -/
noncomputable def opAq (P : Program) (G : Nat) (tm : En) (ts : Array TypeId) (x y : Operand) (h : Tr AO) (nx : Nat) : Option (AV × Tr AO × Nat) :=
  Option.rec (motive := fun _ => Option (AV × Tr AO × Nat)) (opApU P G tm ts x y h nx) (fun r => some r) (opAp P G tm ts x y h nx)
theorem opAq_ok (ht : TR ρ tm nt e.tmps) (hg : ∀ g, g < G → ρ g = some (g, 0)) {o : Oper} {ts : Array TypeId} {x y : Operand} (ho : o.op = .call ⟨.builtin .append, #[x, y], ts⟩) : ActOk P G e o ρ (opAq P G tm ts x y) := by
  intro h nx r h' nx' hr w l
  unfold opAq at hr
  cases h0 : opAp P G tm ts x y h nx with
  | none => rw [h0] at hr; exact opApU_ok ht hg ho h nx r h' nx' hr w l
  | some q => rw [h0] at hr; cases hr; exact opAp_ok ht hg ho h nx r h' nx' h0 w l
end
end Go.Proofs.YthlphddehdjfjaaGreatDoor
