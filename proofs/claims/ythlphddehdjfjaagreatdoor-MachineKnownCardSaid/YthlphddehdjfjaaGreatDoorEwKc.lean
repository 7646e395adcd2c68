/- The code of MachineKnown, in its pieces. -/
import Derived.Test.YthlphddehdjfjaaGreatDoorEwMx
import Derived.Test.YthlphddehdjfjaaGreatDoorEwPc
namespace Go.Proofs.YthlphddehdjfjaaGreatDoor
open Go.Proofs Go.RowKit
noncomputable def bodyK : Code := match Tryz.f4.body with | some c => c | none => .skip
noncomputable def grR (c : Code) : Code := match c with | .seq (.seq r _) _ => r | _ => .skip
noncomputable def grL (c : Code) : Code := match c with | .seq (.seq _ (.block _ (.loop b))) _ => b | _ => .skip
noncomputable def grS (c : Code) : Code := match c with | .seq _ s => s | _ => .skip
noncomputable def cA : Code := dropS 3 bodyK
noncomputable def cB : Code := dropS 2 (grS cA)
noncomputable def loA : Code := grL cA
noncomputable def loB : Code := grL cB
theorem cA_eq : dropS 3 bodyK = .seq (.seq (grR cA) (.block 0 (.loop loA))) (grS cA) := rfl
theorem cB_eq : dropS 2 (grS cA) = .seq (.seq (grR cB) (.block 2 (.loop loB))) (grS cB) := rfl
end Go.Proofs.YthlphddehdjfjaaGreatDoor
