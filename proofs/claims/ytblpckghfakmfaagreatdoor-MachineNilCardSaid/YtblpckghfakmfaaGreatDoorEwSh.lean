/- Short of layer 40, of one operation. -/
import Derived.Test.YtblpckghfakmfaaGreatDoorMgA
import Derived.Test.YtblpckghfakmfaaGreatDoorProg
namespace Go.Proofs.YtblpckghfakmfaaGreatDoor
open Go.RowKit Go.Proofs
set_option maxRecDepth 100000
def IsB (e : Ending) : Prop := ∃ r : Bool, e = .returned (.bool r)
theorem short_walk (k m a b c : Int) (s : ByteArray) (bk : Nat) (w : World) (hb : w.heap[bk]? = some (.cells #[.int .i64 k, .int .i64 m, .int .i64 a, .int .i64 b, .int .i64 c, .string s] 28)) :
    Calls Tryz.prog 27 #[.slice (some ⟨bk, 0, none⟩) 1 1, .int .i64 1] w fun e w' => IsB e ∧ Keeps (fun _ => False) w w' := by
  have H0 := hid hb
  go_enter Tryz.func27, Tryz.ntmps27
  go_wp2_with fail
  go_loopw [5] (fun ix wr => ∃ j : Nat, j ≤ 1 ∧ ix = .int .i64 j ∧ Keeps (fun _ => False) w wr) (fun ix _ => 1 - (intOf ix).toNat)
  case atStart => exact ⟨0, by omega, rfl, Keeps.refl _ _⟩
  case round =>
    obtain ⟨j, hj, rfl, hkr⟩ := hrel
    have hbr := block_keep H0.out hkr (fun h => h)
    have c0 : wr.cell? ⟨bk, 0, none⟩ = some (.int .i64 k) := cell_at hbr rfl
    have c2 : wr.cell? ⟨bk, 2, none⟩ = some (.int .i64 a) := cell_at hbr rfl
    have c5 : wr.cell? ⟨bk, 5, none⟩ = some (.string s) := cell_at hbr rfl
    have HKR := hid hkr
    clear hkr hbr
    by_cases hlt : j < 1
    · obtain rfl : j = 0 := by omega
      by_cases h1 : (120 : Int) < (s.size : Int) <;> by_cases h2 : k = 13 <;> by_cases h3 : (60 : Int) < a <;> by_cases h4 : a ≤ 10000
      all_goals first | (exfalso; omega) | skip
      all_goals go_wp2_with fail
      all_goals first
        | (go_ret; exact ⟨⟨_, rfl⟩, HKR.out⟩)
        | exact ⟨⟨1, by omega, rfl, HKR.out⟩, by simp [intOf]⟩
    · obtain rfl : j = 1 := by omega
      go_wp2_with fail
      go_ret
      exact ⟨⟨_, rfl⟩, HKR.out⟩
#print axioms short_walk
end Go.Proofs.YtblpckghfakmfaaGreatDoor
