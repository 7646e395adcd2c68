/- Package colour: Born, Bleach, where there is such a slot; package marker: Made, Freed, Marked of anything. -/
import Derived.Test.YtkpnmajocgcccaaGreatMgY
import Derived.Test.YtkpnmajocgcccaaGreatMgX
namespace Go.Proofs.YtkpnmajocgcccaaGreat
open Go.RowKit

end Go.Proofs.YtkpnmajocgcccaaGreat

/- Package marker: shake and scan of anything. -/
namespace Go.Proofs.YtkpnmajocgcccaaGreat
open Go.RowKit

theorem glL_len (A : Ar) : A.glL.length ≤ 8 := by
  unfold Ar.glL
  exact Nat.le_trans (List.length_filter_le _ _) (by simp)
end Go.Proofs.YtkpnmajocgcccaaGreat

/- Package marker: trace of anything. -/
namespace Go.Proofs.YtkpnmajocgcccaaGreat
open Go.RowKit

end Go.Proofs.YtkpnmajocgcccaaGreat
