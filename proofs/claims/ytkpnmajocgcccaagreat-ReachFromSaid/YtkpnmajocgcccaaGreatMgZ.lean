import Derived.Test.YtkpnmajocgcccaaGreatMgX
import Derived.Test.YtkpnmajocgcccaaGreatMgY
namespace Go.Proofs.YtkpnmajocgcccaaGreat
open Go.RowKit
end Go.Proofs.YtkpnmajocgcccaaGreat
namespace Go.Proofs.YtkpnmajocgcccaaGreat
open Go.RowKit
theorem glL_len (A:Ar):A.glL.length≤8:=by
 unfold Ar.glL
 exact Nat.le_trans (List.length_filter_le _ _) (by simp)
end Go.Proofs.YtkpnmajocgcccaaGreat
namespace Go.Proofs.YtkpnmajocgcccaaGreat
open Go.RowKit
end Go.Proofs.YtkpnmajocgcccaaGreat
