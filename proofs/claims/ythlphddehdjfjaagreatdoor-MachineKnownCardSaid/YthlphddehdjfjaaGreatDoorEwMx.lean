/- What the readings of this program's closed calls rest on. -/
import Derived.Test.YthlphddehdjfjaaGreatDoorEwKp
import Derived.Test.YthlphddehdjfjaaGreatDoorEwFp
import Derived.Test.YthlphddehdjfjaaGreatDoorProg
namespace Go.Proofs.YthlphddehdjfjaaGreatDoor
open Go.Proofs
theorem mixed : Tryz.prog.follows .mixedOrders = true := by kernel_rfl
theorem cloneF : ∃ fn, Tryz.prog.funcs[389]? = some fn ∧ (fn.name == "runtime.NumGoroutine") = false ∧ fn.body = none ∧ Extern.findNext fn = none ∧ Extern.find fn = some Extern.MapsClone.clone := ⟨Tryz.f389, Tryz.func389, by kernel_rfl, by kernel_rfl, by kernel_rfl, by kernel_rfl⟩
theorem clones : CloneOk Tryz.prog 389 := let ⟨_, h1, h2, h3, h4, h5⟩ := cloneF; clone_ok h1 h2 h3 h4 h5
end Go.Proofs.YthlphddehdjfjaaGreatDoor
