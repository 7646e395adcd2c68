/- Package reach: there, From. -/
import Derived.Test.YtnjgkhgdgpahfaaGreatNgE
import Derived.Test.YtnjgkhgdgpahfaaGreatKqA
import Derived.Test.YtnjgkhgdgpahfaaGreatMgL
import Derived.Test.YtnjgkhgdgpahfaaGreatRows
import Derived.Shelf.SlLaysF0
import Derived.Shelf.SlLaysE0
import Derived.Shelf.SlSortCmp.WholeK
import Derived.Shelf.SlSortCmp.NoneTotal
namespace Go.Proofs.YtnjgkhgdgpahfaaGreat
open Go.RowKit
set_option linter.unusedVariables false
set_option linter.unusedSimpArgs false

end Go.Proofs.YtnjgkhgdgpahfaaGreat

/- Package reach: look, All, Lost. -/
namespace Go.Proofs.YtnjgkhgdgpahfaaGreat
open Go.RowKit
set_option linter.unusedVariables false
set_option linter.unusedSimpArgs false

/-! where reaching begins -/
theorem rt_len (A : Ar) (m : Nat) : (A.rt m).l.length = (A.rt m).n := by simp [Sk.l]
end Go.Proofs.YtnjgkhgdgpahfaaGreat
