/- The examples of layer 44 hold: read by the kernel, in parts. -/
import Derived.Test.YtblpckghfakmfaaGreatDoorEwSd
import Derived.Test.YtblpckghfakmfaaGreatDoorEwMx
namespace Go.Proofs.YtblpckghfakmfaaGreatDoor
open Go.Proofs
set_option maxRecDepth 100000
theorem zd2 : rdB zr2a zr2h zr2n (evF Tryz.prog 1 kp0 424 (fun _ _ _ _ => none) 1000000 30 zs2a zs2h zs2n) = true := by kernel_rfl
theorem zd3 : rdB zr3a zr3h zr3n (evF Tryz.prog 1 kp0 424 (fun _ _ _ _ => none) 1000000 30 zs3a zs3h zs3n) = true := by kernel_rfl
theorem zd4 : rdB zr4a zr4h zr4n (evF Tryz.prog 1 kp0 424 (fun _ _ _ _ => none) 1000000 30 zs4a zs4h zs4n) = true := by kernel_rfl
theorem zd7 : rdB zr7a zr7h zr7n (evF Tryz.prog 1 kp0 424 (fun _ _ _ _ => none) 1000000 30 zs7a zs7h zs7n) = true := by kernel_rfl
theorem zd8 : rdB zr8a zr8h zr8n (evF Tryz.prog 1 kp0 424 (fun _ _ _ _ => none) 1000000 30 zs8a zs8h zs8n) = true := by kernel_rfl
theorem zd9 : rdB zr9a zr9h zr9n (evF Tryz.prog 1 kp0 424 (fun _ _ _ _ => none) 1000000 30 zs9a zs9h zs9n) = true := by kernel_rfl
noncomputable def knC : Kn := (knOr (knL 30 zs2a zs2h zs2n zr2a zr2h zr2n) (knOr (knL 30 zs3a zs3h zs3n zr3a zr3h zr3n) (knL 30 zs4a zs4h zs4n zr4a zr4h zr4n)))
theorem knC_ok : KnOk Tryz.prog 1 knC := (knOr_ok (knL_ok (calE_read mixed (kn0 _ _) clones (by decide) zd2)) (knOr_ok (knL_ok (calE_read mixed (kn0 _ _) clones (by decide) zd3)) (knL_ok (calE_read mixed (kn0 _ _) clones (by decide) zd4))))
noncomputable def knD : Kn := (knOr (knL 30 zs7a zs7h zs7n zr7a zr7h zr7n) (knOr (knL 30 zs8a zs8h zs8n zr8a zr8h zr8n) (knL 30 zs9a zs9h zs9n zr9a zr9h zr9n)))
theorem knD_ok : KnOk Tryz.prog 1 knD := (knOr_ok (knL_ok (calE_read mixed (kn0 _ _) clones (by decide) zd7)) (knOr_ok (knL_ok (calE_read mixed (kn0 _ _) clones (by decide) zd8)) (knL_ok (calE_read mixed (kn0 _ _) clones (by decide) zd9))))
theorem zd0 : rdB zr0a zr0h zr0n (evF Tryz.prog 1 kp0 424 knC 1000000 46 zs0a zs0h zs0n) = true := by kernel_rfl
theorem zd5 : rdB zr5a zr5h zr5n (evF Tryz.prog 1 kp0 424 knD 1000000 48 zs5a zs5h zs5n) = true := by kernel_rfl
noncomputable def knW : Kn := (knOr (knL 46 zs0a zs0h zs0n zr0a zr0h zr0n) (knL 48 zs5a zs5h zs5n zr5a zr5h zr5n))
theorem knW_ok : KnOk Tryz.prog 1 knW := (knOr_ok (knL_ok (calE_read mixed knC_ok clones (by decide) zd0)) (knL_ok (calE_read mixed knD_ok clones (by decide) zd5)))
theorem works44_ev : isT (evF Tryz.prog 1 kp0 424 knW 1000000 43 .nil .e 1) = true := by kernel_rfl
/-- THE EXAMPLES OF LAYER 44 HOLD. -/
theorem works44 (w : World) : CallsIn Wd 0 Tryz.prog 43 #[] w fun e w' => e = .returned (.bool true) ∧ Keeps (fun _ => False) w w' :=
  closed_true mixed knW_ok clones (by decide) works44_ev w
#print axioms works44
end Go.Proofs.YtblpckghfakmfaaGreatDoor
