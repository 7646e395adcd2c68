import Derived.Test.YtkpnmajocgcccaaGreatMgO
namespace Go.Proofs.YtkpnmajocgcccaaGreat
open Go.RowKit
section
variable {w0 w:World} {a m:Nat} {LA:ArL} {LM:MkL} {A:Ar} {M:Mk}
end
end Go.Proofs.YtkpnmajocgcccaaGreat
namespace Go.Proofs.YtkpnmajocgcccaaGreat
open Go.RowKit
theorem wf1:(Ar.new 4 1 1).H.T.inn 0 (Ar.new 4 1 1).H.T.n=(0,1) :: [(1,1),(2,1),(3,1)]:=rfl
end Go.Proofs.YtkpnmajocgcccaaGreat
namespace Go.Proofs.YtkpnmajocgcccaaGreat
open Go.RowKit
end Go.Proofs.YtkpnmajocgcccaaGreat
