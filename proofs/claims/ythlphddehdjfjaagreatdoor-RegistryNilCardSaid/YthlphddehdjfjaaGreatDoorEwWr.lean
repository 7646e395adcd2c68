/- The examples of layer 38 hold: read by the kernel, in parts. -/
import Derived.Test.YthlphddehdjfjaaGreatDoorEwSr
import Derived.Test.YthlphddehdjfjaaGreatDoorEwMx
import Derived.Test.YthlphddehdjfjaaGreatDoorEwNm
namespace Go.Proofs.YthlphddehdjfjaaGreatDoor
open Go.Proofs Go.RowKit
set_option maxRecDepth 100000
theorem xf0 : freshB Tryz.prog kp0 389 (fun _ _ _ _ => none) 100000 10 62 xf0a xf0h xf0n none xb0o0 = true := by kernel_rfl
theorem xf1 : freshB Tryz.prog kp0 389 (fun _ _ _ _ => none) 100000 10 62 xf1a xf1h xf1n none xb1o0 = true := by kernel_rfl
theorem xf2 : freshB Tryz.prog kp0 389 (fun _ _ _ _ => none) 100000 10 59 xf2a xf2h xf2n (some 1) xb2o0 = true := by kernel_rfl
noncomputable def knF : Kn := (knOr (knL 62 xf0a xf0h xf0n (mkF none xf0n) (xf0h.set xf0n xb0o0) (xf0n + 1)) (knOr (knL 62 xf1a xf1h xf1n (mkF none xf1n) (xf1h.set xf1n xb1o0) (xf1n + 1)) (knL 59 xf2a xf2h xf2n (mkF (some 1) xf2n) (xf2h.set xf2n xb2o0) (xf2n + 1))))
theorem knF_ok : KnOk Tryz.prog 1 knF := (knOr_ok (knL_ok (fresh_read mixed (kn0 _ _) clones xf0)) (knOr_ok (knL_ok (fresh_read mixed (kn0 _ _) clones xf1)) (knL_ok (fresh_read mixed (kn0 _ _) clones xf2))))
theorem xd0 : rdB xr0a xr0h xr0n (evF Tryz.prog 1 kp0 389 knF 1000000 6 xs0a xs0h xs0n) = true := by kernel_rfl
theorem xd2 : rdB xr2a xr2h xr2n (evF Tryz.prog 1 kp0 389 knF 1000000 7 xs2a xs2h xs2n) = true := by kernel_rfl
theorem xd3 : rdB xr3a xr3h xr3n (evF Tryz.prog 1 kp0 389 knF 1000000 6 xs3a xs3h xs3n) = true := by kernel_rfl
theorem xd10 : rdB xr10a xr10h xr10n (evF Tryz.prog 1 kp0 389 knF 1000000 18 xs10a xs10h xs10n) = true := by kernel_rfl
theorem xd11 : rdB xr11a xr11h xr11n (evF Tryz.prog 1 kp0 389 knF 1000000 8 xs11a xs11h xs11n) = true := by kernel_rfl
theorem xd17 : rdB xr17a xr17h xr17n (evF Tryz.prog 1 kp0 389 knF 1000000 21 xs17a xs17h xs17n) = true := by kernel_rfl
theorem xd18 : rdB xr18a xr18h xr18n (evF Tryz.prog 1 kp0 389 knF 1000000 8 xs18a xs18h xs18n) = true := by kernel_rfl
noncomputable def knR : Kn := (knOr knF (knOr (knL 6 xs0a xs0h xs0n xr0a xr0h xr0n) (knOr (knL 7 xs2a xs2h xs2n xr2a xr2h xr2n) (knOr (knL 6 xs3a xs3h xs3n xr3a xr3h xr3n) (knOr (knL 18 xs10a xs10h xs10n xr10a xr10h xr10n) (knOr (knL 8 xs11a xs11h xs11n xr11a xr11h xr11n) (knOr (knL 21 xs17a xs17h xs17n xr17a xr17h xr17n) (knL 8 xs18a xs18h xs18n xr18a xr18h xr18n))))))))
theorem knR_ok : KnOk Tryz.prog 1 knR := (knOr_ok knF_ok (knOr_ok (knL_ok (calE_read mixed knF_ok clones (by decide) xd0)) (knOr_ok (knL_ok (calE_read mixed knF_ok clones (by decide) xd2)) (knOr_ok (knL_ok (calE_read mixed knF_ok clones (by decide) xd3)) (knOr_ok (knL_ok (calE_read mixed knF_ok clones (by decide) xd10)) (knOr_ok (knL_ok (calE_read mixed knF_ok clones (by decide) xd11)) (knOr_ok (knL_ok (calE_read mixed knF_ok clones (by decide) xd17)) (knL_ok (calE_read mixed knF_ok clones (by decide) xd18)))))))))
theorem works38_ev : isT (evF Tryz.prog 1 kp0 389 knR 1000000 5 .nil .e 1) = true := by kernel_rfl
/-- THE EXAMPLES OF LAYER 38 HOLD. -/
theorem works38 (w : World) : CallsIn Wd 0 Tryz.prog 5 #[] w fun e w' => e = .returned (.bool true) ∧ Keeps (fun _ => False) w w' :=
  closed_true mixed knR_ok clones (by decide) works38_ev w
#print axioms works38
end Go.Proofs.YthlphddehdjfjaaGreatDoor
