import Derived.Test.YtnlkfbndlngjaaaGreatMgH
import Derived.ProofKit
import Derived.Deep.Slices
import Derived.Deep.Fields
import Derived.ChangeSame
import Derived.Maps.OwnOps
import Derived.DeepKeys4
import Derived.Maps.AppendAt
import Derived.OrdersIn
namespace Go.Proofs.YtnlkfbndlngjaaaGreat
open Go.RowKit
set_option linter.unusedVariables false
set_option linter.unusedSimpArgs false
end Go.Proofs.YtnlkfbndlngjaaaGreat
namespace Go.Proofs.YtnlkfbndlngjaaaGreat
open Go.RowKit
set_option linter.unusedVariables false
set_option linter.unusedSimpArgs false
theorem rt_len (A:Ar) (m:Nat):(A.rt m).l.length=(A.rt m).n:=by simp [Sk.l]
end Go.Proofs.YtnlkfbndlngjaaaGreat
