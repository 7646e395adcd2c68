/- The laws AuditKnown and AuditFinds of layer 44: read by the kernel. -/
import Derived.Test.YtblpckghfakmfaaGreatDoorEwWa
import Derived.Test.YtblpckghfakmfaaGreatDoorEwFp
namespace Go.Proofs.YtblpckghfakmfaaGreatDoor
open Go.Proofs Go.RowKit
set_option maxRecDepth 100000
def cfgA : AV := (.cons (.a (.cons (.i .i64 (.ofNat 8)) (.cons (.i .i64 (.ofNat 1)) (.cons (.i .i64 (.ofNat 4)) (.cons (.i .i64 (.ofNat 4)) (.cons (.i .i64 (.ofNat 4)) (.cons (.i .i64 (.ofNat 2)) (.cons (.i .i64 (.ofNat 4)) (.cons (.i .i64 (.ofNat 2)) (.cons (.i .i64 (.ofNat 8)) (.cons (.i .u32 (.ofNat 1)) .nil))))))))))) .nil)
theorem chk_ev : rdB (.i .i64 (.ofNat 0)) .e 46 (evF Tryz.prog 1 kp0 424 (fun _ _ _ _ => none) 1000000 125 cfgA .e 1) = true := by kernel_rfl
noncomputable def knF : Kn := knOr (knT 43) (knP 125 cfgA (.i .i64 (.ofNat 0)))
theorem ent43 : ∃ fn c, entA Tryz.prog 43 = some (fn, c) := ⟨Tryz.f43, _, rfl⟩
theorem knF_ok : KnOk Tryz.prog 1 knF := knOr_ok (knT_ok ent43 works44) (knP_ok (by decide +kernel) (by decide +kernel) (calE_read mixed (kn0 _ _) clones (by decide) chk_ev))
theorem known_ev : isT (evF Tryz.prog 1 kp0 424 knF 1000000 6 .nil .e 1) = true := by kernel_rfl
theorem auditKnown_walk (w : World) : CallsIn Wd 0 Tryz.prog 6 #[] w fun e w' => e = .returned (.bool true) ∧ Keeps (fun _ => False) w w' := closed_true mixed knF_ok clones (by decide) known_ev w
theorem fd00 : isT (evF Tryz.prog 1 kp0 424 knF 1000000 5 (.cons (.md .u8 8 0) (.cons (.md .u8 4 0) .nil)) .e 1) = true := by kernel_rfl
theorem fd01 : isT (evF Tryz.prog 1 kp0 424 knF 1000000 5 (.cons (.md .u8 8 0) (.cons (.md .u8 4 1) .nil)) .e 1) = true := by kernel_rfl
theorem fd02 : isT (evF Tryz.prog 1 kp0 424 knF 1000000 5 (.cons (.md .u8 8 0) (.cons (.md .u8 4 2) .nil)) .e 1) = true := by kernel_rfl
theorem fd03 : isT (evF Tryz.prog 1 kp0 424 knF 1000000 5 (.cons (.md .u8 8 0) (.cons (.md .u8 4 3) .nil)) .e 1) = true := by kernel_rfl
theorem fd10 : isT (evF Tryz.prog 1 kp0 424 knF 1000000 5 (.cons (.md .u8 8 1) (.cons (.md .u8 4 0) .nil)) .e 1) = true := by kernel_rfl
theorem fd11 : isT (evF Tryz.prog 1 kp0 424 knF 1000000 5 (.cons (.md .u8 8 1) (.cons (.md .u8 4 1) .nil)) .e 1) = true := by kernel_rfl
theorem fd12 : isT (evF Tryz.prog 1 kp0 424 knF 1000000 5 (.cons (.md .u8 8 1) (.cons (.md .u8 4 2) .nil)) .e 1) = true := by kernel_rfl
theorem fd13 : isT (evF Tryz.prog 1 kp0 424 knF 1000000 5 (.cons (.md .u8 8 1) (.cons (.md .u8 4 3) .nil)) .e 1) = true := by kernel_rfl
theorem fd20 : isT (evF Tryz.prog 1 kp0 424 knF 1000000 5 (.cons (.md .u8 8 2) (.cons (.md .u8 4 0) .nil)) .e 1) = true := by kernel_rfl
theorem fd21 : isT (evF Tryz.prog 1 kp0 424 knF 1000000 5 (.cons (.md .u8 8 2) (.cons (.md .u8 4 1) .nil)) .e 1) = true := by kernel_rfl
theorem fd22 : isT (evF Tryz.prog 1 kp0 424 knF 1000000 5 (.cons (.md .u8 8 2) (.cons (.md .u8 4 2) .nil)) .e 1) = true := by kernel_rfl
theorem fd23 : isT (evF Tryz.prog 1 kp0 424 knF 1000000 5 (.cons (.md .u8 8 2) (.cons (.md .u8 4 3) .nil)) .e 1) = true := by kernel_rfl
theorem fd30 : isT (evF Tryz.prog 1 kp0 424 knF 1000000 5 (.cons (.md .u8 8 3) (.cons (.md .u8 4 0) .nil)) .e 1) = true := by kernel_rfl
theorem fd31 : isT (evF Tryz.prog 1 kp0 424 knF 1000000 5 (.cons (.md .u8 8 3) (.cons (.md .u8 4 1) .nil)) .e 1) = true := by kernel_rfl
theorem fd32 : isT (evF Tryz.prog 1 kp0 424 knF 1000000 5 (.cons (.md .u8 8 3) (.cons (.md .u8 4 2) .nil)) .e 1) = true := by kernel_rfl
theorem fd33 : isT (evF Tryz.prog 1 kp0 424 knF 1000000 5 (.cons (.md .u8 8 3) (.cons (.md .u8 4 3) .nil)) .e 1) = true := by kernel_rfl
theorem fd40 : isT (evF Tryz.prog 1 kp0 424 knF 1000000 5 (.cons (.md .u8 8 4) (.cons (.md .u8 4 0) .nil)) .e 1) = true := by kernel_rfl
theorem fd41 : isT (evF Tryz.prog 1 kp0 424 knF 1000000 5 (.cons (.md .u8 8 4) (.cons (.md .u8 4 1) .nil)) .e 1) = true := by kernel_rfl
theorem fd42 : isT (evF Tryz.prog 1 kp0 424 knF 1000000 5 (.cons (.md .u8 8 4) (.cons (.md .u8 4 2) .nil)) .e 1) = true := by kernel_rfl
theorem fd43 : isT (evF Tryz.prog 1 kp0 424 knF 1000000 5 (.cons (.md .u8 8 4) (.cons (.md .u8 4 3) .nil)) .e 1) = true := by kernel_rfl
theorem fd50 : isT (evF Tryz.prog 1 kp0 424 knF 1000000 5 (.cons (.md .u8 8 5) (.cons (.md .u8 4 0) .nil)) .e 1) = true := by kernel_rfl
theorem fd51 : isT (evF Tryz.prog 1 kp0 424 knF 1000000 5 (.cons (.md .u8 8 5) (.cons (.md .u8 4 1) .nil)) .e 1) = true := by kernel_rfl
theorem fd52 : isT (evF Tryz.prog 1 kp0 424 knF 1000000 5 (.cons (.md .u8 8 5) (.cons (.md .u8 4 2) .nil)) .e 1) = true := by kernel_rfl
theorem fd53 : isT (evF Tryz.prog 1 kp0 424 knF 1000000 5 (.cons (.md .u8 8 5) (.cons (.md .u8 4 3) .nil)) .e 1) = true := by kernel_rfl
theorem fd60 : isT (evF Tryz.prog 1 kp0 424 knF 1000000 5 (.cons (.md .u8 8 6) (.cons (.md .u8 4 0) .nil)) .e 1) = true := by kernel_rfl
theorem fd61 : isT (evF Tryz.prog 1 kp0 424 knF 1000000 5 (.cons (.md .u8 8 6) (.cons (.md .u8 4 1) .nil)) .e 1) = true := by kernel_rfl
theorem fd62 : isT (evF Tryz.prog 1 kp0 424 knF 1000000 5 (.cons (.md .u8 8 6) (.cons (.md .u8 4 2) .nil)) .e 1) = true := by kernel_rfl
theorem fd63 : isT (evF Tryz.prog 1 kp0 424 knF 1000000 5 (.cons (.md .u8 8 6) (.cons (.md .u8 4 3) .nil)) .e 1) = true := by kernel_rfl
theorem fd70 : isT (evF Tryz.prog 1 kp0 424 knF 1000000 5 (.cons (.md .u8 8 7) (.cons (.md .u8 4 0) .nil)) .e 1) = true := by kernel_rfl
theorem fd71 : isT (evF Tryz.prog 1 kp0 424 knF 1000000 5 (.cons (.md .u8 8 7) (.cons (.md .u8 4 1) .nil)) .e 1) = true := by kernel_rfl
theorem fd72 : isT (evF Tryz.prog 1 kp0 424 knF 1000000 5 (.cons (.md .u8 8 7) (.cons (.md .u8 4 2) .nil)) .e 1) = true := by kernel_rfl
theorem fd73 : isT (evF Tryz.prog 1 kp0 424 knF 1000000 5 (.cons (.md .u8 8 7) (.cons (.md .u8 4 3) .nil)) .e 1) = true := by kernel_rfl
theorem finds_ev (r q : Nat) (hr : r < 8) (hq : q < 4) : isT (evF Tryz.prog 1 kp0 424 knF 1000000 5 (.cons (.md .u8 8 r) (.cons (.md .u8 4 q) .nil)) .e 1) = true := by
  match r, q, hr, hq with
  | 0, 0, _, _ => exact fd00
  | 0, 1, _, _ => exact fd01
  | 0, 2, _, _ => exact fd02
  | 0, 3, _, _ => exact fd03
  | 1, 0, _, _ => exact fd10
  | 1, 1, _, _ => exact fd11
  | 1, 2, _, _ => exact fd12
  | 1, 3, _, _ => exact fd13
  | 2, 0, _, _ => exact fd20
  | 2, 1, _, _ => exact fd21
  | 2, 2, _, _ => exact fd22
  | 2, 3, _, _ => exact fd23
  | 3, 0, _, _ => exact fd30
  | 3, 1, _, _ => exact fd31
  | 3, 2, _, _ => exact fd32
  | 3, 3, _, _ => exact fd33
  | 4, 0, _, _ => exact fd40
  | 4, 1, _, _ => exact fd41
  | 4, 2, _, _ => exact fd42
  | 4, 3, _, _ => exact fd43
  | 5, 0, _, _ => exact fd50
  | 5, 1, _, _ => exact fd51
  | 5, 2, _, _ => exact fd52
  | 5, 3, _, _ => exact fd53
  | 6, 0, _, _ => exact fd60
  | 6, 1, _, _ => exact fd61
  | 6, 2, _, _ => exact fd62
  | 6, 3, _, _ => exact fd63
  | 7, 0, _, _ => exact fd70
  | 7, 1, _, _ => exact fd71
  | 7, 2, _, _ => exact fd72
  | 7, 3, _, _ => exact fd73
theorem auditFinds_walk (a b : Nat) (w : World) : CallsIn Wd 0 Tryz.prog 5 #[.int .u8 a, .int .u8 b] w fun e w' => e = .returned (.bool true) ∧ Keeps (fun _ => False) w w' :=
  args_true mixed knF_ok clones (by decide) (finds_ev (a % 8) (b % 4) (Nat.mod_lt _ (by decide)) (Nat.mod_lt _ (by decide))) (.cons (.md rfl) (.cons (.md rfl) .nil)) w
#print axioms auditKnown_walk
#print axioms auditFinds_walk
end Go.Proofs.YtblpckghfakmfaaGreatDoor
