/- The examples of layer 44 hold: read by the kernel, in parts. -/
import Derived.Test.YtcagogkgnnckaaaGreatDoorEwSd
import Derived.Test.YtcagogkgnnckaaaGreatDoorEwMx
namespace Go.Proofs.YtcagogkgnnckaaaGreatDoor
open Go.Proofs Go.RowKit
set_option maxRecDepth 100000
theorem zd1 : rdB zr1a zr1h zr1n (evF Tryz.prog 1 kp0 245 (fun _ _ _ _ => none) 1000000 41 zs1a zs1h zs1n) = true := by kernel_rfl
theorem zd2 : rdB zr2a zr2h zr2n (evF Tryz.prog 1 kp0 245 (fun _ _ _ _ => none) 1000000 41 zs2a zs2h zs2n) = true := by kernel_rfl
theorem zd3 : rdB zr3a zr3h zr3n (evF Tryz.prog 1 kp0 245 (fun _ _ _ _ => none) 1000000 41 zs3a zs3h zs3n) = true := by kernel_rfl
theorem zd5 : rdB zr5a zr5h zr5n (evF Tryz.prog 1 kp0 245 (fun _ _ _ _ => none) 1000000 41 zs5a zs5h zs5n) = true := by kernel_rfl
theorem zd6 : rdB zr6a zr6h zr6n (evF Tryz.prog 1 kp0 245 (fun _ _ _ _ => none) 1000000 41 zs6a zs6h zs6n) = true := by kernel_rfl
theorem zd7 : rdB zr7a zr7h zr7n (evF Tryz.prog 1 kp0 245 (fun _ _ _ _ => none) 1000000 41 zs7a zs7h zs7n) = true := by kernel_rfl
noncomputable def knC : Kn := (knOr (knL 41 zs1a zs1h zs1n zr1a zr1h zr1n) (knOr (knL 41 zs2a zs2h zs2n zr2a zr2h zr2n) (knL 41 zs3a zs3h zs3n zr3a zr3h zr3n)))
theorem knC_ok : KnOk Tryz.prog 1 knC := (knOr_ok (knL_ok (calE_read mixed (kn0 _ _) clones (by decide) zd1)) (knOr_ok (knL_ok (calE_read mixed (kn0 _ _) clones (by decide) zd2)) (knL_ok (calE_read mixed (kn0 _ _) clones (by decide) zd3))))
noncomputable def knD : Kn := (knOr (knL 41 zs5a zs5h zs5n zr5a zr5h zr5n) (knOr (knL 41 zs6a zs6h zs6n zr6a zr6h zr6n) (knL 41 zs7a zs7h zs7n zr7a zr7h zr7n)))
theorem knD_ok : KnOk Tryz.prog 1 knD := (knOr_ok (knL_ok (calE_read mixed (kn0 _ _) clones (by decide) zd5)) (knOr_ok (knL_ok (calE_read mixed (kn0 _ _) clones (by decide) zd6)) (knL_ok (calE_read mixed (kn0 _ _) clones (by decide) zd7))))
theorem zd0 : rdB zr0a zr0h zr0n (evF Tryz.prog 1 kp0 245 knC 1000000 13 zs0a zs0h zs0n) = true := by kernel_rfl
theorem zd4 : rdB zr4a zr4h zr4n (evF Tryz.prog 1 kp0 245 knD 1000000 14 zs4a zs4h zs4n) = true := by kernel_rfl
noncomputable def knW : Kn := (knOr (knL 13 zs0a zs0h zs0n zr0a zr0h zr0n) (knL 14 zs4a zs4h zs4n zr4a zr4h zr4n))
theorem knW_ok : KnOk Tryz.prog 1 knW := (knOr_ok (knL_ok (calE_read mixed knC_ok clones (by decide) zd0)) (knL_ok (calE_read mixed knD_ok clones (by decide) zd4)))
theorem works44_ev : isT (evF Tryz.prog 1 kp0 245 knW 1000000 4 .nil .e 1) = true := by kernel_rfl
/-- THE EXAMPLES OF LAYER 44 HOLD. -/
theorem works44 (w : World) : CallsIn Wd 0 Tryz.prog 4 #[] w fun e w' => e = .returned (.bool true) ∧ Keeps (fun _ => False) w w' :=
  closed_true mixed knW_ok clones (by decide) works44_ev w
def cfgA : AV := (.cons (.a (.cons (.i .i64 (.ofNat 8)) (.cons (.i .i64 (.ofNat 1)) (.cons (.i .i64 (.ofNat 4)) (.cons (.i .i64 (.ofNat 4)) (.cons (.i .i64 (.ofNat 4)) (.cons (.i .i64 (.ofNat 2)) (.cons (.i .i64 (.ofNat 4)) (.cons (.i .i64 (.ofNat 2)) (.cons (.i .i64 (.ofNat 8)) (.cons (.i .u32 (.ofNat 1)) .nil))))))))))) .nil)
theorem cfg_r : R ρ1 cfgA (.l [.agg #[.int .i64 8, .int .i64 1, .int .i64 4, .int .i64 4, .int .i64 4, .int .i64 2, .int .i64 4, .int .i64 2, .int .i64 8, .int .u32 1]]) :=
  .cons (.a (.cons (.i _ _) (.cons (.i _ _) (.cons (.i _ _) (.cons (.i _ _) (.cons (.i _ _) (.cons (.i _ _) (.cons (.i _ _) (.cons (.i _ _) (.cons (.i _ _) (.cons (.i _ _) .nil))))))))))) .nil
theorem isV {x : Option (AV × Tr AO × Nat)} {r : AV} {h : Tr AO} {n : Nat} (e : rdB r h n x = true) : ∃ h', x = some (r, h', n) := let ⟨h', e1, _⟩ := rdB_ok e; ⟨h', e1⟩
theorem chk_ev : rdB (.i .i64 (.ofNat 0)) .e 46 (evF Tryz.prog 1 kp0 245 (fun _ _ _ _ => none) 1000000 20 cfgA .e 1) = true := by kernel_rfl
/-- the configuration of the law is allowed -/
theorem check44 (w : World) : CallsIn Wd 0 Tryz.prog 20 #[.agg #[.int .i64 8, .int .i64 1, .int .i64 4, .int .i64 4, .int .i64 4, .int .i64 2, .int .i64 4, .int .i64 2, .int .i64 8, .int .u32 1]] w fun e w' => e = .returned (.int .i64 0) ∧ Keeps (fun _ => False) w w' := by
  obtain ⟨h', e1⟩ := isV chk_ev
  refine (evF_ok (drawn_ok mixed) (kn0 _ _) clones (by decide) e1 ρ1 _ w cfg_r (lay1 w)).2.mono ?_
  rintro e w' ⟨v, ρ', rfl, fin⟩
  have := fin.r
  cases this
  exact ⟨rfl, fin.n.kp.mono fun x _ hx => by obtain ⟨i, o, C, h, _⟩ := hx; cases h⟩
#print axioms works44
#print axioms check44
end Go.Proofs.YtcagogkgnnckaaaGreatDoor
