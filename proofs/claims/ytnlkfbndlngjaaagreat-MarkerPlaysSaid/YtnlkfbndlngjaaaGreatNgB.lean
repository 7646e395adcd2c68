import Derived.Test.YtnlkfbndlngjaaaGreatMgR
import Derived.ProofKit
import Derived.Deep.Slices
import Derived.Deep.Fields
import Derived.ChangeSame
namespace Go.Proofs.YtnlkfbndlngjaaaGreat
end Go.Proofs.YtnlkfbndlngjaaaGreat
namespace Go.Proofs.YtnlkfbndlngjaaaGreat
open Go.ChangeShapes Go.WideShapes Go.ChangeAt Go.RowKit Go.Deep
set_option linter.unusedVariables false
end Go.Proofs.YtnlkfbndlngjaaaGreat
namespace Go.Proofs.YtnlkfbndlngjaaaGreat
open Go.RowKit
set_option linter.unusedVariables false
end Go.Proofs.YtnlkfbndlngjaaaGreat
namespace Go.Proofs.YtnlkfbndlngjaaaGreat
open Go.RowKit
set_option linter.unusedVariables false
theorem Mk.Ok.new {n k s p:Nat} (n1:1≤n) (n2:n≤256) (k1:1≤k) (k4:k≤4):(Mk.new n k s p).Ok:=
 ⟨n1,n2,k1,k4,Nat.zero_le _,fun _=>⟨Int.le_refl _,by show (0:Int)<n;omega⟩,fun _ _ _=>⟨Int.le_refl _,by show (0:Int)<n;omega⟩⟩
end Go.Proofs.YtnlkfbndlngjaaaGreat
namespace Go.Proofs.YtnlkfbndlngjaaaGreat
open Go.ChangeShapes Go.WideShapes Go.ChangeAt Go.RowKit Go.Deep
set_option linter.unusedVariables false
end Go.Proofs.YtnlkfbndlngjaaaGreat
