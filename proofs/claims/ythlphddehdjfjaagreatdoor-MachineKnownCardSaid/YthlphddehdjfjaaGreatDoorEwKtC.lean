/- Ticks of MachineKnown, read by the kernel: parts. -/
import Derived.Test.YthlphddehdjfjaaGreatDoorEwKa
import Derived.Test.YthlphddehdjfjaaGreatDoorEwKc
namespace Go.Proofs.YthlphddehdjfjaaGreatDoor
open Go.Proofs Go.RowKit
set_option maxRecDepth 100000
theorem kt4 : itB qs0x500 (itC Tryz.prog kp0 389 (fun _ _ _ _ => none) Tryz.f4.ntmps (kmA kp0 4) 100000 loA 100 qs0x400) = true := by kernel_rfl
theorem kt5 : itB qs0x600 (itC Tryz.prog kp0 389 (fun _ _ _ _ => none) Tryz.f4.ntmps (kmA kp0 4) 100000 loA 100 qs0x500) = true := by kernel_rfl
end Go.Proofs.YthlphddehdjfjaaGreatDoor
