/- MachineKnown: what is behind the ticks, read by the kernel. -/
import Derived.Test.YthlphddehdjfjaaGreatDoorEwKa
import Derived.Test.YthlphddehdjfjaaGreatDoorEwKb
import Derived.Test.YthlphddehdjfjaaGreatDoorEwKc
import Derived.Test.YthlphddehdjfjaaGreatDoorEwNm
namespace Go.Proofs.YthlphddehdjfjaaGreatDoor
open Go.Proofs Go.RowKit
set_option maxRecDepth 100000
theorem kt20 : itB qs0xlast (itC Tryz.prog kp0 389 (fun _ _ _ _ => none) Tryz.f4.ntmps (kmA kp0 4) 100000 loA 5 qs0x2000) = true := by kernel_rfl
theorem ktl : lastB 0 qs0xend (evC Tryz.prog 1 kp0 389 (fun _ _ _ _ => none) 100000 none Tryz.f4.ntmps (kmA kp0 4) loA qs0xlast) = true := by kernel_rfl
theorem pre0 : itB qs0x0 (ob (evP Tryz.prog kp0 389 (fun _ _ _ _ => none) Tryz.f4.ntmps (kmA kp0 4) 100000 3 bodyK ⟨⟨[], .e⟩, .e, 1, []⟩) fun s => evP Tryz.prog kp0 389 (fun _ _ _ _ => none) Tryz.f4.ntmps (kmA kp0 4) 100000 1 (.seq (grR cA) (.block 0 (.loop loA))) s) = true := by kernel_rfl
theorem pre1 : itB ps1x0 (ob (evP Tryz.prog kp0 389 (fun _ _ _ _ => none) Tryz.f4.ntmps (kmA kp0 4) 100000 2 (grS cA) qs0xend) fun s => evP Tryz.prog kp0 389 (fun _ _ _ _ => none) Tryz.f4.ntmps (kmA kp0 4) 100000 1 (.seq (grR cB) (.block 2 (.loop loB))) s) = true := by kernel_rfl
theorem pf0 : freshB Tryz.prog kp0 389 (fun _ _ _ _ => none) 100000 10 62 pff0a pff0h pff0n none (.c 3 187 .e) = true := by kernel_rfl
noncomputable def knT1 : Kn := knL 62 pff0a pff0h pff0n (mkF none pff0n) (pff0h.set pff0n (.c 3 187 .e)) (pff0n + 1)
theorem knT1_ok : KnOk Tryz.prog 1 knT1 := knL_ok (fresh_read mixed (kn0 _ _) clones pf0)
theorem ku0 : itB ps1x3 (itC Tryz.prog kp0 389 knT1 Tryz.f4.ntmps (kmA kp0 4) 100000 loB 3 ps1x0) = true := by kernel_rfl
theorem ku1 : itB ps1x6 (itC Tryz.prog kp0 389 knT1 Tryz.f4.ntmps (kmA kp0 4) 100000 loB 3 ps1x3) = true := by kernel_rfl
theorem ku2 : itB ps1x9 (itC Tryz.prog kp0 389 knT1 Tryz.f4.ntmps (kmA kp0 4) 100000 loB 3 ps1x6) = true := by kernel_rfl
theorem ku3 : itB ps1x12 (itC Tryz.prog kp0 389 knT1 Tryz.f4.ntmps (kmA kp0 4) 100000 loB 3 ps1x9) = true := by kernel_rfl
theorem ku4 : itB ps1xlast (itC Tryz.prog kp0 389 knT1 Tryz.f4.ntmps (kmA kp0 4) 100000 loB 2 ps1x12) = true := by kernel_rfl
theorem kul : lastB 2 ps1xend (evC Tryz.prog 1 kp0 389 knT1 100000 none Tryz.f4.ntmps (kmA kp0 4) loB ps1xlast) = true := by kernel_rfl
end Go.Proofs.YthlphddehdjfjaaGreatDoor
