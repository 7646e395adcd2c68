/- estraylaw19: ReachParts. -/
import Derived.Test.YtehmoikbeflkaaaGreatRcZ
import Derived.Test.YtehmoikbeflkaaaGreatRcN
import Derived.Test.YtehmoikbeflkaaaGreatRcI
import Derived.Deep.CutBlock
namespace Go.Proofs.YtehmoikbeflkaaaGreat
open Go.RowKit Go.ChangeShapes Go.WideShapes Go.ChangeAt Go.Deep
set_option linter.unusedVariables false
set_option linter.unusedSimpArgs false

structure Parts (H : Hp) (p q : List Rf) : Prop where
  tp : thrE H p = 0
  tq : thrE H q = 0
  tb : thrE H (p ++ ⟨0, 0⟩ :: q) = 0
  tx : thrE H (fromL H p) = 0
  again : fromL H (fromL H p) = fromL H p
  closed : closB H ((fromL H p).filter (·.nz)) = true
  both : ∀ r, r ∈ fromL H (p ++ ⟨0, 0⟩ :: q) ↔ r ∈ fromL H p ∨ r ∈ fromL H q
  self : ∀ r, r ∈ p → r ∈ fromL H p
  less : closB H (p.filter (·.nz)) = (fromL H p).all (fun r => decide (r ∈ p))
  lx : (fromL H p).length ≤ H.T.n
  ly : (fromL H q).length ≤ H.T.n
  lb : (fromL H (p ++ ⟨0, 0⟩ :: q)).length ≤ H.T.n
  wx : ∀ r ∈ fromL H p, There H r
theorem fromL_len {H : Hp} {l : List Rf} (hl : ∀ r ∈ l.filter (·.nz), There H r) (h0 : thrE H l = 0) : (fromL H l).length ≤ H.T.n := by
  refine nodup_there ?_ (fromL_there hl h0)
  unfold fromL
  rw [if_pos h0]
  exact (srt_perm _).nodup_iff.2 (exp_all H _ H.T.n).nd
theorem Parts.of {H : Hp} {p q : List Rf} (hz : ∀ r, There H r → r.nz = true) (hp : ∀ r ∈ p, There H r) (hq : ∀ r ∈ q, There H r) : Parts H p q := by
  have fp : ∀ r ∈ p.filter (·.nz), There H r := fun r hr => hp r (List.mem_filter.1 hr).1
  have fq : ∀ r ∈ q.filter (·.nz), There H r := fun r hr => hq r (List.mem_filter.1 hr).1
  have ep : p.filter (·.nz) = p := List.filter_eq_self.2 fun r hr => hz r (hp r hr)
  have eq : q.filter (·.nz) = q := List.filter_eq_self.2 fun r hr => hz r (hq r hr)
  have eb : (p ++ (⟨0, 0⟩ : Rf) :: q).filter (·.nz) = p ++ q := by
    rw [List.filter_append, ep, List.filter_cons, eq]
    rfl
  have fb : ∀ r ∈ (p ++ (⟨0, 0⟩ : Rf) :: q).filter (·.nz), There H r := fun r hr => by
    rw [eb] at hr
    exact (List.mem_append.1 hr).elim (hp r) (hq r)
  have tp : thrE H p = 0 := thrE_of fun r hr _ => hp r hr
  have tq : thrE H q = 0 := thrE_of fun r hr _ => hq r hr
  have tb : thrE H (p ++ ⟨0, 0⟩ :: q) = 0 := thrE_of fun r hr hn => fb r (List.mem_filter.2 ⟨hr, hn⟩)
  obtain ⟨tx, again⟩ := from_idem hz fp tp
  have wx := fromL_there fp tp
  refine ⟨tp, tq, tb, tx, again, ?_, fun r => ?_, fun r hr => ?_, closed_iff hz hp, fromL_len fp tp, fromL_len fq tq, fromL_len fb tb, wx⟩
  · rw [closed_iff hz wx, again, List.all_eq_true]
    exact fun r hr => decide_eq_true hr
  · rw [fromL_mem fb tb, eb, rchl_app, fromL_mem fp tp, fromL_mem fq tq, ep, eq]
  · rw [fromL_mem fp tp, ep]
    exact .base hr
theorem all_take_succ {l : List Rf} {k : Nat} {r : Rf} {f : Rf → Bool} (h : l[k]? = some r) : (l.take (k + 1)).all f = ((l.take k).all f && f r) := by
  rw [List.take_add_one, h, List.all_append]
  simp
end Go.Proofs.YtehmoikbeflkaaaGreat
