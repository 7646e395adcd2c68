/- A reading of closed calls that the kernel can run: every operation is read rightly. -/
import Derived.Test.YthlphddehdjfjaaGreatDoorEwL
namespace Go.Proofs.YthlphddehdjfjaaGreatDoor
open Go.RowKit
set_option linter.unusedVariables false
set_option linter.unusedSimpArgs false
set_option linter.unusedSectionVars false

/-- the fence that lets everything in, in a round or not -/
abbrev Wr (r : Option Nat) : Fence := { Fence.wide with round := r }
theorem wr_callsIn {r : Option Nat} {P : Program} {f : FuncId} {args : Array Value} {w : World} {R : Ending → World → Prop} (h : CallsIn Wd 0 P f args w R) : CallsIn (Wr r) 0 P f args w R := h
theorem wr_roundIn {r : Option Nat} {P : Program} {l : Nat} {f : FuncId} {tmps : Array Value} {asg body : Code} {w : World} {R : Ending → World → Prop} (h : RoundIn Wd 0 P l f tmps asg body w R) : RoundIn (Wr r) 0 P l f tmps asg body w R := h
structure Fin' (G : Nat) (ρ : Rn) (h : Hp') (nx : Nat) (w : World) (ρ' : Rn) (r : AV) (h' : Hp') (nx' : Nat) (v : Value) (w' : World) : Prop where
  r : R ρ' r (.v v)
  l : Lay G ρ' h' nx' w'
  n : Nx ρ h nx w ρ' h' nx' w'
def SCal (P : Program) (G : Nat) (cal : Cal) : Prop :=
  ∀ f args h nx r h' nx', cal f args h nx = some (r, h', nx') → ∀ ρ vs w, R ρ args (.l vs) → Lay G ρ h.get nx w →
    (∃ v ρ' w', (callFunc f ⟨vs⟩).run P w = .ok (.value v) w' ∧ Fin' G ρ h.get nx w ρ' r h'.get nx' v w') ∨
    ((callFunc f ⟨vs⟩).run P w = .ok (.enter f ⟨vs⟩) w ∧ CallsIn Wd 0 P f ⟨vs⟩ w fun e w' => ∃ v ρ', e = .returned v ∧ Fin' G ρ h.get nx w ρ' r h'.get nx' v w')
def SYld (P : Program) (G : Nat) (yld : Yld) : Prop :=
  ∀ id args h nx r h' nx', yld id args h nx = some (r, h', nx') → ∀ ρ vs w bk C, ρ id = some (bk, C) → R ρ args (.l vs) → Lay G ρ h.get nx w →
    ∃ fn tmps asg body, (Instr.yield bk ⟨vs⟩).run P w = .ok (.round bk fn tmps asg body) w ∧ RoundIn Wd 0 P bk fn tmps asg body w fun e w' => ∃ v ρ', e = .returned v ∧ Fin' G ρ h.get nx w ρ' r h'.get nx' v w'
def ActW (P : Program) (G : Nat) (e : Act) (o : Oper) (ρ : Rn) (f : Tr AO → Nat → Option (AV × Tr AO × Nat)) : Prop :=
  ∀ h nx r h' nx', f h nx = some (r, h', nx') → ∀ w, Lay G ρ h.get nx w → ∀ (rd : Option Nat) (next : Act → World → Prop) (Q : Exit → Act → World → Prop),
    (∀ ρ' v w', Fin' G ρ h.get nx w ρ' r h'.get nx' v w' → next (e.put o.dst v) w') → o.wpIn (Wr rd) 0 P e w next Q
def OutOk (P : Program) (G : Nat) (e : Act) (o : Oper) (ρ : Rn) : Out → Prop
  | .pv v => Pure' P e o ρ v
  | .rd f => ReadOk P G e o ρ f
  | .al a f => NewOk P e o ρ a f
  | .ac f => ActW P G e o ρ f

section
variable {P : Program} {e : Act} {o : Oper} {w w' : World} {v : Value} {next : Act → World → Prop} {Q : Exit → Act → World → Prop}
theorem about_wide (rd : Option Nat) : ∀ f, o.about P w e.eval = some f → (Wr rd).fn f := fun _ _ => trivial
theorem wpIn_ends (rd : Option Nat) (hd : ∀ c, o.op ≠ .defer c) (h : Ends P e o w v w') (hn : next (e.put o.dst v) w') : o.wpIn (Wr rd) 0 P e w next Q := by
  refine ⟨about_wide rd, ?_⟩
  rw [Oper.semAt_eq _ _ _ hd]
  rcases h with h | ⟨rfl, h⟩
  · rw [h]; exact hn
  · rw [h]; exact hn
theorem wpIn_enter (rd : Option Nat) (hd : ∀ c, o.op ≠ .defer c) {f : FuncId} {args : Array Value} (h : (execOp e.eval o).run P w = .ok (.enter f args) w)
    (hc : CallsIn Wd 0 P f args w fun r w' => ∃ v, r = .returned v ∧ next (e.put o.dst v) w') : o.wpIn (Wr rd) 0 P e w next Q := by
  refine ⟨about_wide rd, ?_⟩
  rw [Oper.semAt_eq _ _ _ hd, h]
  refine ⟨fun hh => by simp [Fence.wide] at hh, (wr_callsIn hc).mono ?_⟩
  rintro r w' ⟨v, rfl, hn⟩
  exact hn
theorem wpIn_round (rd : Option Nat) (hd : ∀ c, o.op ≠ .defer c) {l : Nat} {f : FuncId} {tmps : Array Value} {asg body : Code} (h : (execOp e.eval o).run P w = .ok (.round l f tmps asg body) w)
    (hc : RoundIn Wd 0 P l f tmps asg body w fun r w' => ∃ v, r = .returned v ∧ next (e.put o.dst v) w') : o.wpIn (Wr rd) 0 P e w next Q := by
  refine ⟨about_wide rd, ?_⟩
  rw [Oper.semAt_eq _ _ _ hd, h]
  refine ⟨fun hh => by simp [Fence.wide] at hh, (wr_roundIn hc).mono ?_⟩
  rintro r w' ⟨v, rfl, hn⟩
  exact hn
theorem actW_of {G : Nat} {ρ : Rn} {f : Tr AO → Nat → Option (AV × Tr AO × Nat)} (hd : ∀ c, o.op ≠ .defer c) (h : ActOk P G e o ρ f) : ActW P G e o ρ f := by
  intro hh nx r h' nx' hr w l rd next Q hn
  obtain ⟨ρ', v, w', a1, a2, a3, a4⟩ := h hh nx r h' nx' hr w l
  exact wpIn_ends rd hd a4 (hn ρ' v w' ⟨a1, a2, a3⟩)
end

section
variable {P : Program} {G nt : Nat} {ρ : Rn} {tm : En} {e : Act} {cal : Cal} {yld : Yld}
theorem pure_of {o : Oper} {r : AV} {s : Sem Value} (hex : execOp e.eval o = (do pure (.value (← s)))) (h : ∃ z, R ρ r (.v z) ∧ ∀ w, s.run P w = .ok z w) : Pure' P e o ρ r := by
  obtain ⟨z, h1, h2⟩ := h
  exact ⟨z, h1, fun w => by rw [hex]; simp [h2]⟩
theorem nodef {o : Oper} {op : Op} (ho : o.op = op) (h : ∀ c, op ≠ .defer c) : ∀ c, o.op ≠ .defer c := fun c => by rw [ho]; exact h c
theorem opMv_ok (ht : TR ρ tm nt e.tmps) (hg : ∀ g, g < G → ρ g = some (g, 0)) {o : Oper} {x : Operand} {v : AV} (ho : execOp e.eval o = pure (.value (e.eval x))) (h : opd G tm x = some v) : Pure' P e o ρ v := ⟨_, opdG ht hg h, fun w => by rw [ho]; rfl⟩
/-- a call of a function -/
theorem call_ok (hcal : SCal P G cal) {o : Oper} (hd : ∀ c, o.op ≠ .defer c) {f : FuncId} {args : AV} (vs : List Value) (hr : R ρ args (.l vs))
    (hex : ∀ w, (execOp e.eval o).run P w = (callFunc f ⟨vs⟩).run P w) : ActW P G e o ρ (cal f args) := by
  intro h nx r h' nx' hc w l rd next Q hn
  rcases hcal f args h nx r h' nx' hc ρ vs w hr l with ⟨v, ρ', w', h1, h2⟩ | ⟨h1, h2⟩
  · exact wpIn_ends rd hd (.inl (by rw [hex, h1])) (hn ρ' v w' h2)
  · refine wpIn_enter rd hd (by rw [hex, h1]) (h2.mono ?_)
    rintro r' w' ⟨v, ρ', rfl, h3⟩
    exact ⟨v, rfl, hn ρ' v w' h3⟩
theorem mth_ok {t : TypeId} {name : String} {f : FuncId} (h : mthA P t name = some f) (v : Value) (w : World) : (method (P.types.size + Made.depth) t v name).run P w = .ok (f, v) w := by
  unfold mthA at h
  split at h
  · rename_i i el hi hu
    split at h
    · rename_i m hm
      split at h
      · rename_i f' hf hp
        cases h
        have hp' : m.path = #[] := Array.ext' hp
        have : P.types.size + Made.depth = (P.types.size + 99) + 1 := rfl
        rw [this]
        unfold method
        have hti : (typeInfo t).run P w = .ok i w := by simp [typeInfo, hi]
        simp only [Sem.run_bind, hti, Result.andThen_ok, hm, hp', follow, Sem.run_pure, hf, receiverAt, run_underlying hu, Place.get]
      · cases h
    · cases h
  · cases h
theorem opCall_ok (ht : TR ρ tm nt e.tmps) (hg : ∀ g, g < G → ρ g = some (g, 0)) (hcal : SCal P G cal) (hyld : SYld P G yld) {o : Oper} {c : Call} {out : Out} (ho : o.op = .call c) (h : opCall P G cal yld tm c = some out) : OutOk P G e o ρ out := by
  have hd : ∀ c, o.op ≠ .defer c := nodef ho (fun _ h => by cases h)
  obtain ⟨cl, args, ts⟩ := c
  unfold opCall at h
  split at h
  · rename_i f hcl
    cases hcl
    replace h := ob_eq h; obtain ⟨v, h1, h⟩ := h
    replace h := ob_eq h; obtain ⟨asv, h2, h⟩ := h
    have r1 := opdG ht hg h1
    have r2 := opsA_ok ht hg h2
    have hargs : args.map e.eval = ⟨args.toList.map e.eval⟩ := Array.ext' (by simp)
    split at h
    · cases h
      generalize hfv : e.eval f = fv at r1
      cases r1 with
      | f hc =>
        rename_i fn caps vs
        refine call_ok hcal hd _ (r2.app hc) (fun w => ?_)
        simp only [execOp, ho, resolve, hfv, Deferred.ofValue, invoke, hargs, Sem.run_bind, Sem.run_pure, Result.andThen_ok]
        congr 2
        apply Array.ext'
        simp
    · cases h
      generalize hfv : e.eval f = fv at r1
      cases r1 with
      | fb hf hc =>
        rename_i fn fst caps vs us
        refine call_ok hcal hd _ ((hf.app r2).app hc) (fun w => ?_)
        simp only [execOp, ho, resolve, hfv, Deferred.ofValue, invoke, hargs, Sem.run_bind, Sem.run_pure, Result.andThen_ok]
        congr 2
        apply Array.ext'
        simp
    · cases h
      generalize hfv : e.eval f = fv at r1
      cases r1 with
      | fy hp =>
        rename_i id bk C
        intro hh nx r h' nx' hy w l rd next Q hn
        obtain ⟨fn, tmps, asg, body, h3, h4⟩ := hyld id asv hh nx r h' nx' hy ρ _ w bk C hp r2 l
        refine wpIn_round rd hd (l := bk) ?_ (h4.mono ?_)
        · simp only [execOp, ho, resolve, hfv, Deferred.ofValue, invoke, hargs, Sem.run_bind, Sem.run_pure, Result.andThen_ok]
          rw [show (#[] ++ (⟨args.toList.map e.eval⟩ : Array Value)) = ⟨args.toList.map e.eval⟩ by simp]
          exact h3
        · rintro r' w' ⟨v, ρ', rfl, h5⟩
          exact ⟨v, rfl, hn ρ' v w' h5⟩
    · cases h
  · rename_i rc name hcl
    cases hcl
    replace h := ob_eq h; obtain ⟨v, h1, h⟩ := h
    replace h := ob_eq h; obtain ⟨asv, h2, h⟩ := h
    have r1 := opdG ht hg h1
    have r2 := opsA_ok ht hg h2
    have hargs : args.map e.eval = ⟨args.toList.map e.eval⟩ := Array.ext' (by simp)
    split at h
    · replace h := ob_eq h; obtain ⟨f, h3, h⟩ := h
      cases h
      generalize hfv : e.eval rc = fv at r1
      cases r1 with
      | x hv =>
        rename_i t u v0
        refine call_ok hcal hd (v0 :: args.toList.map e.eval) (.cons hv r2) (fun w => ?_)
        simp only [execOp, ho, resolve, hfv, hargs, invoke, Sem.run_bind, Sem.run_pure, Result.andThen_ok]
        have h0 : (#[Value.iface t v0] ++ (⟨args.toList.map e.eval⟩ : Array Value))[0]? = some (.iface t v0) := by simp
        have h1' : (#[Value.iface t v0] ++ (⟨args.toList.map e.eval⟩ : Array Value)).extract 1 (#[Value.iface t v0] ++ (⟨args.toList.map e.eval⟩ : Array Value)).size = ⟨args.toList.map e.eval⟩ := Array.ext' (by simp; exact List.take_of_length_le (by simp))
        simp only [h0, h1', callMethod, Sem.run_bind, run_program, Result.andThen_ok, mth_ok h3]
        congr 2
        apply Array.ext'
        simp
    · cases h
  · rename_i b hcl
    cases hcl
    have hal : ∀ l, args.toList = l → args = ⟨l⟩ := fun l h => Array.ext' h
    split at h
    · rename_i x hb hl
      cases hal _ hl
      split at h
      · rename_i v hv
        cases h
        exact opLeP_ok ht hg ho hv
      · cases h
        exact opLeM_ok ht hg ho
    · rename_i x y hb hl
      cases hal _ hl
      replace h := ob_eq h; obtain ⟨v, h1, h⟩ := h
      cases h
      exact opMin_ok ht hg ho h1
    · rename_i x y hb hl
      cases hal _ hl
      replace h := ob_eq h; obtain ⟨v, h1, h⟩ := h
      cases h
      exact opMax_ok ht hg ho h1
    · rename_i x y hb hl
      cases hal _ hl
      cases h
      exact actW_of hd (opAq_ok ht hg ho)
    · rename_i x y hb hl
      cases hal _ hl
      cases h
      exact actW_of hd (opCo_ok ht hg ho)
    · rename_i x y hb hl
      cases hal _ hl
      cases h
      exact actW_of hd (opDe_ok ht hg ho)
    · rename_i x hb hl
      cases hal _ hl
      cases h
      exact actW_of hd (opCl_ok ht hg ho)
    · cases h
theorem opPick_ok (ht : TR ρ tm nt e.tmps) (hg : ∀ g, g < G → ρ g = some (g, 0)) {o : Oper} {c x y : Operand} {r : AV} (ho : o.op = .pick c x y) (h : opPick G tm c x y = some r) : Pure' P e o ρ r := by
  replace h := ob_eq h; obtain ⟨b, h2, h⟩ := h
  have r1 := opdG ht hg h2
  cases b with
  | b z =>
    generalize hcv : e.eval c = cv at r1
    cases r1
    cases z with
    | false => exact ⟨_, opdG ht hg h, fun w => by simp only [execOp, ho, hcv, asBool]; rfl⟩
    | true => exact ⟨_, opdG ht hg h, fun w => by simp only [execOp, ho, hcv, asBool]; rfl⟩
  | _ => cases h
theorem pvO_eq {x : Option AV} {out : Out} (h : pvO x = some out) : ∃ v, x = some v ∧ out = .pv v := by
  obtain ⟨v, h1, h2⟩ := ob_eq h
  cases h2
  exact ⟨v, h1, rfl⟩
theorem opOut_ok (ht : TR ρ tm nt e.tmps) (hg : ∀ g, g < G → ρ g = some (g, 0)) (hcal : SCal P G cal) (hyld : SYld P G yld) {o : Oper} {out : Out} (h : opOut P G cal yld tm o = some out) : OutOk P G e o ρ out := by
  unfold opOut at h
  split at h
  all_goals rename_i ho
  · obtain ⟨v, h1, rfl⟩ := pvO_eq h; exact opMv_ok ht hg (by simp [execOp, ho]) h1
  · obtain ⟨v, h1, rfl⟩ := pvO_eq h; exact opMv_ok ht hg (by simp [execOp, ho]) h1
  · obtain ⟨v, h1, rfl⟩ := pvO_eq h; exact opPick_ok ht hg ho h1
  · obtain ⟨a, h1, h2⟩ := ob_eq h; cases h2; exact opAll_ok ht hg ho h1
  · obtain ⟨a, h1, h2⟩ := ob_eq h; cases h2; exact opBox_ok ht hg ho h1
  · obtain ⟨v, h1, rfl⟩ := pvO_eq h; exact pure_of (by simp only [execOp, ho]) (opBld_ok ht hg h1)
  · obtain ⟨a, h1, h2⟩ := ob_eq h; cases h2; exact opBsl_ok ht hg ho h1
  · cases h; exact actW_of (nodef ho fun _ h => by cases h) (opMu_ok ht hg (.inr ho))
  · cases h; exact opLd_ok ht hg ho
  · cases h; exact actW_of (nodef ho fun _ h => by cases h) (opSt_ok ht hg ho)
  · obtain ⟨v, h1, rfl⟩ := pvO_eq h; exact opNil_ok ht hg ho h1
  · obtain ⟨v, h1, rfl⟩ := pvO_eq h; exact pure_of (by simp only [execOp, ho]) (opBin_ok ht hg h1)
  · obtain ⟨v, h1, rfl⟩ := pvO_eq h; exact pure_of (by simp only [execOp, ho]) (opUna_ok ht hg h1)
  · obtain ⟨v, h1, rfl⟩ := pvO_eq h; exact pure_of (by simp only [execOp, ho]) (opCnv_ok ht hg h1)
  · obtain ⟨v, h1, rfl⟩ := pvO_eq h; exact pure_of (by simp only [execOp, ho]) (opMki_ok ht hg h1)
  · obtain ⟨v, h1, rfl⟩ := pvO_eq h; exact pure_of (by simp only [execOp, ho]) (opMkf_ok ht hg h1)
  · obtain ⟨a, h1, h2⟩ := ob_eq h; cases h2; exact opMkm_ok ho h1
  · obtain ⟨q, h1, h2⟩ := ob_eq h; cases h2; exact opMks_ok ht hg ho h1
  · obtain ⟨v, h1, rfl⟩ := pvO_eq h; exact pure_of (by simp only [execOp, ho]) (opSli_ok ht hg h1)
  · obtain ⟨v, h1, rfl⟩ := pvO_eq h; exact pure_of (by simp only [execOp, ho]) (opFld_ok ht hg h1)
  · obtain ⟨v, h1, rfl⟩ := pvO_eq h; exact pure_of (by simp only [execOp, ho]) (opFie_ok ht hg h1)
  · obtain ⟨v, h1, rfl⟩ := pvO_eq h; exact pure_of (by simp only [execOp, ho]) (opIxa_ok ht hg h1)
  · obtain ⟨v, h1, rfl⟩ := pvO_eq h; exact pure_of (by simp only [execOp, ho]) (opIdx_ok ht hg h1)
  · cases h; exact opLk_ok ht hg ho
  · cases h; exact actW_of (nodef ho fun _ h => by cases h) (opMu_ok ht hg (.inl ho))
  · cases h; exact actW_of (nodef ho fun _ h => by cases h) (opMe_ok ht hg ho)
  · cases h; exact actW_of (nodef ho fun _ h => by cases h) (opEs_ok ht hg ho)
  · split at h
    · rename_i a ha; cases h; exact opRs_ok ht hg ho ha
    · cases h; exact actW_of (nodef ho fun _ h => by cases h) (opRm_ok ht hg ho)
  · cases h; exact actW_of (nodef ho fun _ h => by cases h) (opNx_ok ht hg ho)
  · cases h; exact opEn_ok ht hg ho
  · obtain ⟨v, h1, rfl⟩ := pvO_eq h; exact pure_of (by simp only [execOp, ho]; rfl) (opTas_ok ht hg h1)
  · obtain ⟨v, h1, rfl⟩ := pvO_eq h; exact pure_of (by simp only [execOp, ho]) (opExt_ok ht hg h1)
  · exact opCall_ok ht hg hcal hyld ho h
  · cases h
end

end Go.Proofs.YthlphddehdjfjaaGreatDoor
