/- The examples of layer 40 hold: read by the kernel, in parts. -/
import Derived.Test.YthlphddehdjfjaaGreatDoorEwSc
import Derived.Test.YthlphddehdjfjaaGreatDoorEwMx
namespace Go.Proofs.YthlphddehdjfjaaGreatDoor
open Go.Proofs
set_option maxRecDepth 100000
theorem yd0 : rdB yr0a yr0h yr0n (evF Tryz.prog 1 kp0 389 (fun _ _ _ _ => none) 1000000 26 ys0a ys0h ys0n) = true := by kernel_rfl
theorem yd3 : rdB yr3a yr3h yr3n (evF Tryz.prog 1 kp0 389 (fun _ _ _ _ => none) 1000000 26 ys3a ys3h ys3n) = true := by kernel_rfl
theorem yd4 : rdB yr4a yr4h yr4n (evF Tryz.prog 1 kp0 389 (fun _ _ _ _ => none) 1000000 26 ys4a ys4h ys4n) = true := by kernel_rfl
theorem yd7 : rdB yr7a yr7h yr7n (evF Tryz.prog 1 kp0 389 (fun _ _ _ _ => none) 1000000 26 ys7a ys7h ys7n) = true := by kernel_rfl
theorem yd8 : rdB yr8a yr8h yr8n (evF Tryz.prog 1 kp0 389 (fun _ _ _ _ => none) 1000000 26 ys8a ys8h ys8n) = true := by kernel_rfl
noncomputable def kn1 : Kn := (knOr (knL 26 ys0a ys0h ys0n yr0a yr0h yr0n) (knOr (knL 26 ys3a ys3h ys3n yr3a yr3h yr3n) (knOr (knL 26 ys4a ys4h ys4n yr4a yr4h yr4n) (knOr (knL 26 ys7a ys7h ys7n yr7a yr7h yr7n) (knL 26 ys8a ys8h ys8n yr8a yr8h yr8n)))))
theorem kn1_ok : KnOk Tryz.prog 1 kn1 := (knOr_ok (knL_ok (calE_read mixed (kn0 _ _) clones (by decide) yd0)) (knOr_ok (knL_ok (calE_read mixed (kn0 _ _) clones (by decide) yd3)) (knOr_ok (knL_ok (calE_read mixed (kn0 _ _) clones (by decide) yd4)) (knOr_ok (knL_ok (calE_read mixed (kn0 _ _) clones (by decide) yd7)) (knL_ok (calE_read mixed (kn0 _ _) clones (by decide) yd8))))))
theorem works_ev : isT (evF Tryz.prog 1 kp0 389 kn1 1000000 32 .nil .e 1) = true := by kernel_rfl
/-- THE EXAMPLES OF LAYER 40 HOLD. -/
theorem works40 (w : World) : CallsIn Wd 0 Tryz.prog 32 #[] w fun e w' => e = .returned (.bool true) ∧ Keeps (fun _ => False) w w' :=
  closed_true mixed kn1_ok clones (by decide) works_ev w
#print axioms works40
end Go.Proofs.YthlphddehdjfjaaGreatDoor
