/- The examples of layer 40 hold: read by the kernel, in parts. -/
import Derived.Test.YtblpckghfakmfaaGreatDoorEwSc
import Derived.Test.YtblpckghfakmfaaGreatDoorEwMx
namespace Go.Proofs.YtblpckghfakmfaaGreatDoor
open Go.Proofs
set_option maxRecDepth 100000
theorem yd1 : rdB yr1a yr1h yr1n (evF Tryz.prog 1 kp0 424 (fun _ _ _ _ => none) 1000000 30 ys1a ys1h ys1n) = true := by kernel_rfl
theorem yd4 : rdB yr4a yr4h yr4n (evF Tryz.prog 1 kp0 424 (fun _ _ _ _ => none) 1000000 30 ys4a ys4h ys4n) = true := by kernel_rfl
theorem yd8 : rdB yr8a yr8h yr8n (evF Tryz.prog 1 kp0 424 (fun _ _ _ _ => none) 1000000 30 ys8a ys8h ys8n) = true := by kernel_rfl
theorem yd9 : rdB yr9a yr9h yr9n (evF Tryz.prog 1 kp0 424 (fun _ _ _ _ => none) 1000000 30 ys9a ys9h ys9n) = true := by kernel_rfl
noncomputable def kn1 : Kn := (knOr (knL 30 ys1a ys1h ys1n yr1a yr1h yr1n) (knOr (knL 30 ys4a ys4h ys4n yr4a yr4h yr4n) (knOr (knL 30 ys8a ys8h ys8n yr8a yr8h yr8n) (knL 30 ys9a ys9h ys9n yr9a yr9h yr9n))))
theorem kn1_ok : KnOk Tryz.prog 1 kn1 := (knOr_ok (knL_ok (calE_read mixed (kn0 _ _) clones (by decide) yd1)) (knOr_ok (knL_ok (calE_read mixed (kn0 _ _) clones (by decide) yd4)) (knOr_ok (knL_ok (calE_read mixed (kn0 _ _) clones (by decide) yd8)) (knL_ok (calE_read mixed (kn0 _ _) clones (by decide) yd9)))))
theorem works_ev : isT (evF Tryz.prog 1 kp0 424 kn1 1000000 28 .nil .e 1) = true := by kernel_rfl
/-- THE EXAMPLES OF LAYER 40 HOLD. -/
theorem works40 (w : World) : CallsIn Wd 0 Tryz.prog 28 #[] w fun e w' => e = .returned (.bool true) ∧ Keeps (fun _ => False) w w' :=
  closed_true mixed kn1_ok clones (by decide) works_ev w
#print axioms works40
end Go.Proofs.YtblpckghfakmfaaGreatDoor
