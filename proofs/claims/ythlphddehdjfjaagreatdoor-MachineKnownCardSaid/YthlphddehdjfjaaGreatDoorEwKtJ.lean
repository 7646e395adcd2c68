/- Ticks of MachineKnown, read by the kernel: parts. -/
import Derived.Test.YthlphddehdjfjaaGreatDoorEwKa
import Derived.Test.YthlphddehdjfjaaGreatDoorEwKc
namespace Go.Proofs.YthlphddehdjfjaaGreatDoor
open Go.Proofs Go.RowKit
set_option maxRecDepth 100000
theorem kt18 : itB qs0x1900 (itC Tryz.prog kp0 389 (fun _ _ _ _ => none) Tryz.f4.ntmps (kmA kp0 4) 100000 loA 100 qs0x1800) = true := by kernel_rfl
theorem kt19 : itB qs0x2000 (itC Tryz.prog kp0 389 (fun _ _ _ _ => none) Tryz.f4.ntmps (kmA kp0 4) 100000 loA 100 qs0x1900) = true := by kernel_rfl
end Go.Proofs.YthlphddehdjfjaaGreatDoor
