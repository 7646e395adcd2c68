/- Package marker: markers that New did not make, and arenas that New did not make. -/
import Derived.Test.YtkpnmajocgcccaaGreatMgO
import Derived.Test.YtkpnmajocgcccaaGreatMgP
namespace Go.Proofs.YtkpnmajocgcccaaGreat
open Go.RowKit

def NoA (w : World) (v : Value) : Prop := v = .pointer none ∨ ∃ b, v = .pointer (some ⟨b, 0, none⟩) ∧
  w.heap[b]? = some (.cells #[.pointer none, .int .i64 0, .int .i64 0, .pointer none, .pointer none, .pointer none, .pointer none, .pointer none] 76)
theorem NoA.keeps0 {w w' : World} {v : Value} (h : NoA w v) (hk : Keeps (fun _ => False) w w') : NoA w' v := by
  rcases h with h | ⟨b, h, hb⟩
  · exact .inl h
  · exact .inr ⟨b, h, block_keep hb hk (fun h => h)⟩
theorem avalid_no (v : Value) (w : World) (h : NoA w v) : Calls Tryz.prog 56 #[v] w fun e w' => e = .returned (.bool false) ∧ w' = w := by
  rcases h with rfl | ⟨b, rfl, hb⟩
  · go_enter Tryz.func56, Tryz.ntmps56
    go_wp2
    go_ret
    exact ⟨rfl, rfl⟩
  · have c0 : w.cell? ⟨b, 0, none⟩ = some (.pointer none) := cell_at hb rfl
    clear hb
    go_enter Tryz.func56, Tryz.ntmps56
    go_wp2
    go_ret
    exact ⟨rfl, rfl⟩
end Go.Proofs.YtkpnmajocgcccaaGreat
