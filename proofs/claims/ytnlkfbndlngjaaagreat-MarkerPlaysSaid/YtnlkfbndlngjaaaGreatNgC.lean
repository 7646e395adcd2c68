import Derived.Test.YtnlkfbndlngjaaaGreatMgS
import Derived.ProofKit
import Derived.Deep.Slices
import Derived.Deep.Fields
import Derived.ChangeSame
namespace Go.Proofs.YtnlkfbndlngjaaaGreat
open Go.RowKit
theorem cells3 {w:World} {b:Nat} {v0 v1 v2:Value} {t:TypeId} (h:w.heap[b]?=some (.cells #[v0,v1,v2] t)):
 w.cell? ⟨b,0,none⟩=some v0∧w.cell? ⟨b,1,none⟩=some v1∧w.cell? ⟨b,2,none⟩=some v2∧b<w.heap.size:=
 ⟨cell_at h rfl,cell_at h rfl,cell_at h rfl,lt_block h⟩
structure Sw where
 size:Nat
 next:Nat
 n:Nat
end Go.Proofs.YtnlkfbndlngjaaaGreat
namespace Go.Proofs.YtnlkfbndlngjaaaGreat
open Go.RowKit
set_option linter.unusedVariables false
end Go.Proofs.YtnlkfbndlngjaaaGreat
namespace Go.Proofs.YtnlkfbndlngjaaaGreat
open Go.RowKit
set_option linter.unusedVariables false
section
variable {w0 w w':World} {a m b:Nat} {LA:ArL} {LM:MkL} {s:Sys} {S:Sw}
end
theorem Ar.freeR_n (A:Ar) (r:Rf):(A.freeR r).1.H.T.n=A.H.T.n∧(A.freeR r).1.many=A.many:=by
 refine⟨?_,rfl⟩
 show (A.H.freeR r).1.T.n=_
 unfold Hp.freeR
 split
 ·rfl
 ·unfold Hp.free Tb.give
  dsimp only
  split <;> rfl
end Go.Proofs.YtnlkfbndlngjaaaGreat
namespace Go.Proofs.YtnlkfbndlngjaaaGreat
set_option linter.unusedSimpArgs false
open Go.RowKit
set_option linter.unusedVariables false
end Go.Proofs.YtnlkfbndlngjaaaGreat
