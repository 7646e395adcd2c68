/- An arena and its marker, side by side in memory: what a step of either leaves of both. -/
import Derived.Test.YtkpnmajocgcccaaGreatMgO
namespace Go.Proofs.YtkpnmajocgcccaaGreat
open Go.RowKit

section
variable {w0 w : World} {a m : Nat} {LA : ArL} {LM : MkL} {A : Ar} {M : Mk}

end

end Go.Proofs.YtkpnmajocgcccaaGreat

/- estraylaw24: works. -/
namespace Go.Proofs.YtkpnmajocgcccaaGreat
open Go.RowKit

/-! what the arena and the marker hold, step by step -/
theorem wf1 : (Ar.new 4 1 1).H.T.inn 0 (Ar.new 4 1 1).H.T.n = (0, 1) :: [(1, 1), (2, 1), (3, 1)] := rfl
end Go.Proofs.YtkpnmajocgcccaaGreat

/- estraylaw24: works. -/
namespace Go.Proofs.YtkpnmajocgcccaaGreat
open Go.RowKit

end Go.Proofs.YtkpnmajocgcccaaGreat
