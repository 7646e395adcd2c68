/- Closed facts of a program whose rows list a variable; a program in which nothing starts a goroutine. -/
import Derived.Test.YthlphddehdjfjaaGreatDoorCgA
import Derived.SevenTiedAt
namespace Go.Proofs.YthlphddehdjfjaaGreatDoor
theorem pf_laysLater : Tryz.prog.laysLater = false := by kernel_rfl
theorem pf_reflect : Tryz.prog.bearsReflect = false := by kernel_rfl
theorem pf_mayEnter : Tryz.prog.mayEnter = true := by
  unfold Program.mayEnter; rw [head_words, pf_laysLater, pf_reflect]; simp [headWords, stripLifts, liftWords]
  all_goals kernel_rfl
theorem pf_lifted : (cX.lifted == Tryz.prog.liftsFinal) = true := lifts_of head_words
theorem pf_make : (Tryz.prog.make == some cX.make) = true := make_of head_words
theorem u8_nat {x : Int} (h : (Lit.int .u8 x).wf = true) : ∃ k : Nat, x = k := by
  have e1 : IntKind.u8.min = 0 := by decide
  have e2 : IntKind.u8.max = 255 := by decide
  simp [Lit.wf, e1, e2] at h
  exact ⟨x.toNat, by omega⟩
theorem goes_none {P : Program} (h : P.funcs.toList.all (fun f => !f.goes) = true) (c : OpenClaim) (hs : c.start = .entering) : false = c.goesBy P := by
  have hg : ∀ g : FuncId, (P.funcs[g]?).any Func.goes = false := fun g => by
    cases e : P.funcs[g]? with
    | none => rfl
    | some f =>
      have hm : f ∈ P.funcs.toList := List.mem_of_getElem? (by simpa using e)
      have := List.all_eq_true.1 h f hm
      simpa using this
  have ha : P.funcs.any Func.goes = false := by
    rw [← Array.any_toList, List.any_eq_false]
    intro f hf
    have := List.all_eq_true.1 h f hf
    simpa using this
  have hP : ∀ f, P.goes f = false := fun f => by
    unfold Program.goes
    rw [ha, Bool.and_false, Bool.or_false, List.any_eq_false]
    intro g _
    rw [hg g]; decide
  unfold OpenClaim.goesBy Program.goesAt Program.goesFrom
  rw [hs]
  cases P.funcNamed c.func with
  | none => rfl
  | some f => simp [hP f]
theorem allgo : Tryz.prog.funcs.toList.all (fun f => !f.goes) = true := by kernel_rfl
end Go.Proofs.YthlphddehdjfjaaGreatDoor
