import Derived.Test.YtkpnmajocgcccaaGreatNgC
import Derived.Test.YtkpnmajocgcccaaGreatNgD
namespace Go.Proofs.YtkpnmajocgcccaaGreat
open Go.RowKit
set_option linter.unusedVariables false
set_option linter.unusedSimpArgs false
end Go.Proofs.YtkpnmajocgcccaaGreat
namespace Go.Proofs.YtkpnmajocgcccaaGreat
open Go.RowKit
theorem Sys.free_M {s:Sys} {i:Nat} (hi:i<s.M.P.n):(s.free i).M={ s.M with P:=s.M.P.put i 0 }:=by
 show (s.M.freedR i).1=_
 unfold Mk.freedR;rw [if_neg (by omega),Int.toNat_natCast]
end Go.Proofs.YtkpnmajocgcccaaGreat
namespace Go.Proofs.YtkpnmajocgcccaaGreat
open Go.RowKit
set_option linter.unusedVariables false
set_option linter.unusedSimpArgs false
section
variable {w0 w:World} {a m b:Nat} {LA:ArL} {LM:MkL}
end
end Go.Proofs.YtkpnmajocgcccaaGreat
