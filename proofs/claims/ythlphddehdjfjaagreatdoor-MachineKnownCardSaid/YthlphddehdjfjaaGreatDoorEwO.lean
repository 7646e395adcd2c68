/- A reading of closed calls that the kernel can run: calls, rounds. -/
import Derived.Test.YthlphddehdjfjaaGreatDoorEwN
namespace Go.Proofs.YthlphddehdjfjaaGreatDoor
open Go.RowKit
set_option linter.unusedVariables false
set_option linter.unusedSimpArgs false
set_option linter.unusedSectionVars false

def XA.toE : XA → Exit
  | .normal => .normal
  | .exit n => .exit n
  | .ret => .ret
def RO (ρ : Rn) : Option Nat → Option Nat → Prop
  | none, none => True
  | some l, some bk => ∃ C, ρ l = some (bk, C)
  | _, _ => False
theorem RO.mono {ρ ρ' : Rn} (hl : ρ.le ρ') : ∀ {rd r : Option Nat}, RO ρ rd r → RO ρ' rd r
  | none, none, _ => trivial
  | some l, some bk, ⟨C, h⟩ => ⟨C, hl _ _ h⟩
/-- code is read rightly -/
def SCode (P : Program) (G : Nat) (ih : EvT) : Prop :=
  ∀ rd nt km c st x st', ih rd nt km c st = some (x, st') → ∀ ρ r a w, RO ρ rd r → SR G nt km ρ st a w → ∀ Q : Exit → Act → World → Prop,
    (∀ ρ' a' w', SR G nt km ρ' st' a' w' → Nx ρ st.h.get st.nx w ρ' st'.h.get st'.nx w' → Q x.toE a' w') → c.wpIn (Wr r) 0 P Q a w
/-- a call of a function that is entered -/
def CalE (P : Program) (G : Nat) (f : FuncId) (args : AV) (h : Tr AO) (nx : Nat) (r : AV) (h' : Tr AO) (nx' : Nat) : Prop :=
  ∀ ρ vs w, R ρ args (.l vs) → Lay G ρ h.get nx w → (∀ w', Lay G ρ h.get nx w' → (callFunc f ⟨vs⟩).run P w' = .ok (.enter f ⟨vs⟩) w') ∧ CallsIn Wd 0 P f ⟨vs⟩ w fun e w' => ∃ v ρ', e = .returned v ∧ Fin' G ρ h.get nx w ρ' r h'.get nx' v w'
def KnOk (P : Program) (G : Nat) (kn : Kn) : Prop := ∀ f args h nx r h' nx', kn f args h nx = some (r, h', nx') → CalE P G f args h nx r h' nx'
def CloneOk (P : Program) (mc : FuncId) : Prop :=
  ∀ t bk ms clock w, w.heap[bk]? = some (.map ms clock) → (callFunc mc #[.iface t (.map (some bk))]).run P w = .ok (.value (.iface t (.map (some w.heap.size)))) (w.alloc (.map ms clock))

section
variable {P : Program} {G nt km nx : Nat} {ρ ρ' : Rn} {st st' : St} {a : Act} {w w' : World} {h : Tr AO}
/-- a block is spoken of no more -/
theorem Lay.drop (l : Lay G ρ h.get nx w) {i bk C : Nat} {o : AO} (e : h.get i = some o) (r : ρ i = some (bk, C)) (hk : Keeps (fun z => z = bk) w w') :
    Lay G ρ (h.del i).get nx w' ∧ Nx ρ h.get nx w ρ (h.del i).get nx w' := by
  have hd : ∀ j q, (h.del i).get j = some q → j ≠ i ∧ h.get j = some q := fun j q hq => by
    rw [Tr.get_del] at hq
    split at hq
    · cases hq
    · exact ⟨by assumption, hq⟩
  refine ⟨⟨fun j q ej => ?_, fun j j' q q' b D D' ej ej' => l.inj j j' q q' b D D' (hd _ _ ej).2 (hd _ _ ej').2, l.top, l.glb⟩,
    ⟨.refl _, hk.mono (fun z _ hz => by subst hz; exact ⟨i, o, C, e, r⟩), fun b hb ⟨j, q, D, ej, rj⟩ => ⟨j, q, D, (hd _ _ ej).2, rj⟩, fun _ _ => rfl, Nat.le_refl _⟩⟩
  obtain ⟨hj, ej⟩ := hd j q ej
  obtain ⟨b', D, y, h1, h2, h3⟩ := l.obj j q ej
  exact ⟨b', D, y, h1, block_keep h2 hk (fun hb => hj (by have hb' : b' = bk := hb; subst hb'; exact l.inj j i q o b' D C ej e h1 r)), h3⟩
theorem leaves_ok {fn : Func} {tmps : Array Value} {S : Ending → World → Prop} : ∀ {ms : List Nat} {ds : List Deferred} {h h' : Tr AO} {w : World}, DR ρ ms ds → dropM ms h = some h' → Lay G ρ h.get nx w →
    (∀ w', Lay G ρ h'.get nx w' → Nx ρ h.get nx w ρ h'.get nx w' → ∃ v, (results fn tmps).run P w' = .ok v w' ∧ S (.returned v) w') → LeavesInM Wd 0 P fn tmps S ds .returning w
  | [], _, h, h', w, .nil, hd, l, hn => by cases hd; exact hn w l (.refl _ _ _)
  | i :: ms, _, h, h', w, .cons (bk := bk) (C := C) hr r, hd, l, hn => by
    replace hd : (match h.get i with | some AO.df => (h.del i).fc (dropM ms) | _ => none) = some h' := hd
    split at hd
    · rename_i hi
      rw [Tr.fc_eq] at hd
      obtain ⟨x, h1, h2⟩ := l.at hi hr
      cases h2
      obtain ⟨l1, n1⟩ := l.drop (w' := w.putObj bk (.deferred none)) hi hr ((Keeps.refl (fun k => k = bk) w).putObj (.inl rfl) _)
      exact ⟨by simp, .inl ⟨bk, _, rfl, run_takeDeferred h1, leaves_ok r hd l1 fun w' l' n' => hn w' l' (n1.trans n')⟩⟩
    · cases hd
def rvS (ts : Array Value) (r : ResultVar) : Sem Value := match r with
  | .tmp t => pure (ts.getD t undef)
  | .cell a t => do loadVar t (← asAddr (ts.getD a undef))
theorem res1_ok {tm : En} {ts : Array Value} (ht : TR ρ tm nt ts) (l : Lay G ρ h.get nx w) {r : ResultVar} {c : AV} (hc : res1 P tm h r = some c) :
    ∃ v, R ρ c (.v v) ∧ Sem.run P (rvS ts r) w = .ok v w := by
  unfold rvS
  unfold res1 at hc
  split at hc
  · rename_i t
    obtain ⟨v, h1, h2⟩ := ht.2 _ _ hc
    exact ⟨v, h2, by simp [Array.getD_eq_getD_getElem?, h1]⟩
  · rename_i b t
    replace hc := ob_eq hc; obtain ⟨d, h1, hc⟩ := hc
    obtain ⟨v, h2, h3⟩ := ht.2 _ _ h1
    have hv : ts.getD b undef = v := by simp [Array.getD_eq_getD_getElem?, h2]
    simp only [hv]
    split at hc
    · rename_i id off
      replace hc := ob_eq hc; obtain ⟨u, hu, hc⟩ := hc
      replace hc := ob_eq hc; obtain ⟨b, h4, hc⟩ := hc
      cases h3 with
      | p hp =>
        obtain ⟨cs, ty, q1, q2⟩ := tbl_ok l hu hp
        cases b with
        | false =>
          obtain ⟨v, e1, e2, e3⟩ := q2 _ _ hc
          refine ⟨v, e3, ?_⟩
          simp [asAddr, loadVar, agA_ok h4, cell_at q1 e1]
        | true =>
          replace hc := ob_eq hc; obtain ⟨n, h5, hc⟩ := hc
          replace hc := ob_eq hc; obtain ⟨k, h6, hc⟩ := hc
          cases hc
          obtain ⟨vs, f1, f2, f3, f4⟩ := row_ok q2 n off h6
          refine ⟨_, .a f2, ?_⟩
          have := run_row (P := P) q1 f4
          rw [f1] at this
          simp [asAddr, loadVar, agA_ok h4, szA_ok h5, this]
    · cases hc
theorem resL_ok {tm : En} {ts : Array Value} (ht : TR ρ tm nt ts) (l : Lay G ρ h.get nx w) : ∀ {rs : List ResultVar} {c : AV}, resL P tm h rs = some c →
    ∃ vs, R ρ c (.l vs) ∧ Sem.run P (rs.mapM (rvS ts)) w = .ok vs w
  | [], c, hc => by cases hc; exact ⟨[], .nil, by simp⟩
  | r :: rs, c, hc => by
    obtain ⟨c1, h1, hc⟩ := ob_eq hc
    obtain ⟨c2, h2, hc⟩ := ob_eq hc
    cases hc
    obtain ⟨v, e1, e2⟩ := res1_ok ht l h1
    obtain ⟨vs, f1, f2⟩ := resL_ok ht l h2
    refine ⟨v :: vs, .cons e1 f1, ?_⟩
    simp only [List.mapM_cons, Sem.run_bind]
    rw [e2]
    simp only [Result.andThen_ok]
    rw [f2]
    simp
theorem resA_ok {tm : En} {ts : Array Value} (ht : TR ρ tm nt ts) (l : Lay G ρ h.get nx w) {fn : Func} {c : AV} (hc : resA P tm h fn.results.toList = some c) :
    ∃ v, R ρ c (.v v) ∧ (results fn ts).run P w = .ok v w := by
  obtain ⟨c1, h1, hc⟩ := ob_eq hc
  obtain ⟨vs, e1, e2⟩ := resL_ok ht l h1
  have hrun : ∀ v, (if h : (⟨vs⟩ : Array Value).size = 1 then (⟨vs⟩ : Array Value)[0] else Value.tuple ⟨vs⟩) = v → (results fn ts).run P w = .ok v w := fun v hv => by
    have hu : results fn ts = (do let vs ← fn.results.mapM (rvS ts); pure (if h : vs.size = 1 then vs[0] else .tuple vs)) := by unfold results rvS; rfl
    rw [hu, Array.mapM_eq_mapM_toList]
    simp only [Sem.run_bind, map_eq_pure_bind]
    rw [e2]
    simp only [Result.andThen_ok, Sem.run_pure]
    rw [hv]
  split at hc
  · rename_i v
    cases hc
    cases e1 with
    | cons k1 k2 =>
      cases k2
      exact ⟨_, k1, hrun _ (by simp)⟩
  · rename_i hne
    cases hc
    refine ⟨_, .t e1, hrun _ (dif_neg fun hs => ?_)⟩
    cases e1 with
    | nil => cases hs
    | cons k1 k2 =>
      cases k2 with
      | nil => exact hne _ rfl
      | cons _ _ => simp at hs
theorem entA_eq {f : FuncId} {fn : Func} {c : Code} (h : entA P f = some (fn, c)) : P.funcs[f]? = some fn ∧ fn.body = some c ∧ ∀ args w, (callFunc f args).run P w = .ok (.enter f args) w := by
  unfold entA at h
  split at h
  · rename_i g hg
    split at h
    · rename_i d hd
      obtain ⟨h1, h2⟩ := iff_eq h
      cases h2
      refine ⟨hg, hd, fun args w => ?_⟩
      have h1' : (fn.name == "runtime.NumGoroutine") = false := by simpa using h1
      unfold callFunc
      simp only [Sem.run_bind, run_program, Result.andThen_ok, hg, h1', hd]
      rfl
    · cases h
  · cases h
theorem mask_ok {m n k : Nat} (h : Nat.land m (2 ^ n - 1) = 2 ^ n - 1) (hb : Nat.testBit m k = false) : n ≤ k := by
  by_cases hk : n ≤ k
  · exact hk
  · have h1 : Nat.testBit (2 ^ n - 1) k = true := by rw [Nat.testBit_two_pow_sub_one]; simp; omega
    have h2 : Nat.testBit (m &&& (2 ^ n - 1)) k = true := by rw [show m &&& (2 ^ n - 1) = 2 ^ n - 1 from h]; exact h1
    rw [Nat.testBit_and, hb] at h2
    simp at h2
theorem R.lt {l : AV} {vs : List Value} (hr : R ρ l (.l vs)) {k : Nat} {c : AV} (h : l.nth k = some c) : k < l.lng := by
  obtain ⟨v, h1, _⟩ := hr.nth h
  rw [← hr.lng]
  exact (List.getElem?_eq_some_iff.1 h1).1
/-- the temporaries a call begins with -/
theorem args_ok {args : AV} {vs : List Value} (hr : R ρ args (.l vs)) (hn : args.lng ≤ nt) (f : Nat) : TR ρ ⟨[], args.tab f⟩ nt (⟨vs⟩ ++ Array.replicate (nt - (⟨vs⟩ : Array Value).size) undef) := by
  have hs : (⟨vs⟩ : Array Value).size = args.lng := hr.lng
  refine ⟨by simp only [Array.size_append, Array.size_replicate, hs]; omega, fun k c h => ?_⟩
  have h1 := tab_get f args k c h
  obtain ⟨v, h2, h3⟩ := hr.nth h1
  have hk := hr.lt h1
  refine ⟨v, ?_, h3⟩
  rw [Array.getElem?_append_left (by rw [hs]; exact hk)]
  simpa using h2
variable {kp : Tr Nat} {mc : FuncId} {kn : Kn} {ih : EvT}
theorem calK_ok (hc : SCode P G ih) {f : FuncId} {fn : Func} {c : Code} (he : entA P f = some (fn, c)) {args r : AV} {h' : Tr AO} {nx' : Nat} (hk : calK P kp ih f args h nx (fn, c) = some (r, h', nx')) {vs : List Value} (hr : R ρ args (.l vs)) (l : Lay G ρ h.get nx w) :
    CallsIn Wd 0 P f ⟨vs⟩ w fun e w' => ∃ v ρ', e = .returned v ∧ Fin' G ρ h.get nx w ρ' r h'.get nx' v w' := by
  obtain ⟨hf, hb, _⟩ := entA_eq he
  obtain ⟨h1, hk⟩ := iff_eq hk
  rw [Bool.and_eq_true] at h1
  have hlen := Nat.le_of_ble_eq_true h1.1
  have hmask := Nat.eq_of_beq_eq_true h1.2
  obtain ⟨⟨x, s1⟩, h2, hk⟩ := ob_eq hk
  refine callsIn_of_wp_marks hf hb trivial ?_
  have s0 : SR G fn.ntmps (kmA kp f) ρ ⟨⟨[], args.tab 40⟩, h, nx, []⟩ { tmps := ⟨vs⟩ ++ Array.replicate (fn.ntmps - (⟨vs⟩ : Array Value).size) undef, defers := [] } w :=
    ⟨args_ok hr hlen 40, fun k hb => by
      show (args.tab 40).get k = none
      cases hg : (args.tab 40).get k with
      | none => rfl
      | some c =>
        have := hr.lt (tab_get 40 args k c hg)
        have := mask_ok hmask hb
        omega, l, .nil⟩
  refine hc none _ _ _ _ x s1 h2 ρ none _ w trivial s0 _ ?_
  intro ρ' a' w' s' n'
  have fin : ∀ x', x = x' → (ob (dropM s1.ms s1.h) fun h' => ob (resA P s1.tm h' fn.results.toList) fun v => some (v, h', s1.nx)) = some (r, h', nx') →
      LeavesInM Wd 0 P fn a'.tmps (fun e w' => ∃ v ρ', e = .returned v ∧ Fin' G ρ h.get nx w ρ' r h'.get nx' v w') a'.defers .returning w' := by
    intro _ _ hk
    obtain ⟨h2', h3, hk⟩ := ob_eq hk
    obtain ⟨v, h4, hk⟩ := ob_eq hk
    cases hk
    refine leaves_ok s'.df h3 s'.la fun w2 l2 n2 => ?_
    obtain ⟨z, e1, e2⟩ := resA_ok s'.tr l2 h4
    exact ⟨z, e2, z, ρ', rfl, e1, l2, n'.trans n2⟩
  cases x with
  | normal => exact fin _ rfl hk
  | ret => exact fin _ rfl hk
  | exit id => cases hk
theorem calA_enter (hc : SCode P G ih) (hkn : KnOk P G kn) {f : FuncId} {args r : AV} {h' : Tr AO} {nx' : Nat} (hf : Nat.beq f mc = false) (hk : calA P kp mc kn ih f args h nx = some (r, h', nx')) : CalE P G f args h nx r h' nx' := by
  unfold calA at hk
  rw [hf] at hk
  replace hk : Option.rec (motive := fun _ => Option (AV × Tr AO × Nat)) (ob (entA P f) (calK P kp ih f args h nx)) (fun r => some r) (kn f args h nx) = some (r, h', nx') := hk
  cases hv : kn f args h nx with
  | some v =>
    rw [hv] at hk
    cases hk
    exact hkn f args h nx r h' nx' hv
  | none =>
    rw [hv] at hk
    obtain ⟨⟨fn, c⟩, h1, hk⟩ := ob_eq hk
    exact fun ρ vs w hr l => ⟨fun w' _ => (entA_eq h1).2.2 _ _, calK_ok hc h1 hk hr l⟩
theorem calA_ok (hc : SCode P G ih) (hkn : KnOk P G kn) (hcl : CloneOk P mc) : SCal P G (calA P kp mc kn ih) := by
  intro f args h nx r h' nx' hk ρ vs w hr l
  cases hf : Nat.beq f mc with
  | false =>
    obtain ⟨h1, h2⟩ := calA_enter hc hkn hf hk ρ vs w hr l
    exact .inr ⟨h1 w l, h2⟩
  | true =>
    have := Nat.eq_of_beq_eq_true hf
    subst this
    unfold calA at hk
    rw [hf] at hk
    replace hk : cloneA args h nx = some (r, h', nx') := hk
    unfold cloneA at hk
    split at hk
    · rename_i t c
      obtain ⟨q, h1, hk⟩ := ob_eq hk
      rw [Tr.fc_eq, fN_eq] at hk
      cases hk
      cases hr with
      | cons k1 k2 =>
        cases k2
        cases k1 with
        | x k1 =>
          obtain ⟨id, bk, C, ms, rfl, rfl, e1, e2, e3, e4⟩ := getM_ok (es := q.1) (clock := q.2) l h1 k1
          have hle : ρ.le (ρ.up nx (w.heap.size, 0)) := Rn.le_up _ (l.top nx (Nat.le_refl _))
          obtain ⟨l1, n1⟩ := l.alloc (o := .mp q.1 q.2) (x := .map ms q.2) 0 (.mp (e4.mono hle))
          rw [← hup_set] at l1 n1
          exact .inl ⟨_, _, _, hcl t bk ms q.2 w e3, .x (.m (Rn.up_same _ _ _)), l1, n1⟩
    · cases hk
end
end Go.Proofs.YthlphddehdjfjaaGreatDoor
