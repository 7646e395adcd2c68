/- A reading of closed calls that the kernel can run: what it gives for a call without arguments. -/
import Derived.Test.YthlphddehdjfjaaGreatDoorEwY
namespace Go.Proofs.YthlphddehdjfjaaGreatDoor
open Go.RowKit
set_option linter.unusedVariables false
set_option linter.unusedSimpArgs false

theorem clone_ok {P : Program} {mc : FuncId} {fn : Func} (hf : P.funcs[mc]? = some fn) (hn : (fn.name == "runtime.NumGoroutine") = false) (hb : fn.body = none) (h1 : Extern.findNext fn = none) (h2 : Extern.find fn = some Extern.MapsClone.clone) : CloneOk P mc := by
  intro t bk ms clock w hw
  unfold callFunc
  have hg : (getObj bk).run P w = .ok (.map ms clock) w := by simp [getObj, Sem.run, hw]
  have e : Extern.MapsClone.clone #[.iface t (.map (some bk))] = (getObj bk >>= fun o => match o with
      | .map entries clock => newObj (.map entries clock) >>= fun r => pure (.iface t (.map (some r)))
      | _ => stuck "maps.clone: a map expected") := rfl
  have hrun : (Extern.MapsClone.clone #[.iface t (.map (some bk))]).run P w = .ok (.iface t (.map (some w.heap.size))) (w.alloc (.map ms clock)) := by
    rw [e]
    simp only [Sem.run_bind, hg, Result.andThen_ok, run_newObj_alloc, Sem.run_pure]
  simp only [Sem.run_bind, run_program, Result.andThen_ok, hf, hn, hb, h1, h2, Option.isNone_none, if_true, Bool.false_eq_true, if_false]
  have hm : (mark (Mark.extern mc)).run P w = .ok () w := rfl
  rw [hm]
  simp only [Sem.run_bind, hrun, Result.andThen_ok, Sem.run_pure]
def ρ1 : Rn := fun i => if i = 0 then some (0, 0) else none
theorem lay1 (w : World) : Lay 1 ρ1 (Tr.e : Tr AO).get 1 w :=
  ⟨fun i o h => (by cases h), fun i j o o' bk C C' h => (by cases h), fun i hi => if_neg (by omega), fun g hg => if_pos (by omega) |>.trans (by rw [show g = 0 by omega])⟩
/-- is the answer true -/
noncomputable def isT (x : Option (AV × Tr AO × Nat)) : Bool := match x with
  | some (.b true, _, _) => true
  | _ => false
/-- A CLOSED CALL THAT IS READ AS TRUE RETURNS TRUE. -/
theorem closed_true {P : Program} {kp : Tr Nat} {mc : FuncId} {kn : Kn} {n : Nat} {f : FuncId} (hm : P.follows .mixedOrders = true) (hkn : KnOk P 1 kn) (hcl : CloneOk P mc) (hf : Nat.beq f mc = false)
    (he : isT (evF P 1 kp mc kn n f .nil .e 1) = true) (w : World) : CallsIn Wd 0 P f #[] w fun e w' => e = .returned (.bool true) ∧ Keeps (fun _ => False) w w' := by
  unfold isT at he
  split at he
  · rename_i h' nx' hx
    refine (evF_ok (drawn_ok hm) hkn hcl hf hx ρ1 [] w .nil (lay1 w)).2.mono ?_
    rintro e w' ⟨v, ρ', rfl, fin⟩
    have := fin.r
    cases this
    exact ⟨rfl, fin.n.kp.mono fun x _ hx => by obtain ⟨i, o, C, h, _⟩ := hx; cases h⟩
  · cases he
theorem kn0 (P : Program) (G : Nat) : KnOk P G (fun _ _ _ _ => none) := fun f args h nx r h' nx' e => by cases e
#print axioms closed_true
end Go.Proofs.YthlphddehdjfjaaGreatDoor
