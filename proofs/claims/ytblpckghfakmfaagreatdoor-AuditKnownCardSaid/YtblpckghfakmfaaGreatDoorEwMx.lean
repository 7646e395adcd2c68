/- What the readings of this program's closed calls rest on. -/
import Derived.Test.YtblpckghfakmfaaGreatDoorEwKp
import Derived.Test.YtblpckghfakmfaaGreatDoorEwFp
import Derived.Test.YtblpckghfakmfaaGreatDoorProg
namespace Go.Proofs.YtblpckghfakmfaaGreatDoor
open Go.Proofs
theorem mixed : Tryz.prog.follows .mixedOrders = true := by kernel_rfl
theorem cloneF : ∃ fn, Tryz.prog.funcs[424]? = some fn ∧ (fn.name == "runtime.NumGoroutine") = false ∧ fn.body = none ∧ Extern.findNext fn = none ∧ Extern.find fn = some Extern.MapsClone.clone := ⟨Tryz.f424, Tryz.func424, by kernel_rfl, by kernel_rfl, by kernel_rfl, by kernel_rfl⟩
theorem clones : CloneOk Tryz.prog 424 := let ⟨_, h1, h2, h3, h4, h5⟩ := cloneF; clone_ok h1 h2 h3 h4 h5
end Go.Proofs.YtblpckghfakmfaaGreatDoor
