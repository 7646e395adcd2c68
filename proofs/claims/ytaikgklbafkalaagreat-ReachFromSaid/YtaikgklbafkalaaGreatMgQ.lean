/- Package marker: markers that New did not make, and arenas that New did not make. -/
import Derived.Test.YtaikgklbafkalaaGreatMgO
import Derived.Test.YtaikgklbafkalaaGreatMgP
namespace Go.Proofs.YtaikgklbafkalaaGreat
open Go.RowKit

def NoM (w : World) (v : Value) : Prop := v = .pointer none ∨ ∃ b, v = .pointer (some ⟨b, 0, none⟩) ∧ w.heap[b]? = some (.cells #[.int .i64 0, .int .i64 0, .pointer none, .pointer none, .pointer none, .slice none 0 0] 207)
theorem NoM.keeps0 {w w' : World} {v : Value} (h : NoM w v) (hk : Keeps (fun _ => False) w w') : NoM w' v := by
  rcases h with h | ⟨b, h, hb⟩
  · exact .inl h
  · exact .inr ⟨b, h, block_keep hb hk (fun h => h)⟩
def NoA (w : World) (v : Value) : Prop := v = .pointer none ∨ ∃ b, v = .pointer (some ⟨b, 0, none⟩) ∧
  w.heap[b]? = some (.cells #[.pointer none, .int .i64 0, .int .i64 0, .pointer none, .pointer none, .pointer none, .pointer none, .pointer none] 144)
theorem NoA.keeps0 {w w' : World} {v : Value} (h : NoA w v) (hk : Keeps (fun _ => False) w w') : NoA w' v := by
  rcases h with h | ⟨b, h, hb⟩
  · exact .inl h
  · exact .inr ⟨b, h, block_keep hb hk (fun h => h)⟩
theorem avalid_no (v : Value) (w : World) (h : NoA w v) : Calls Tryz.prog 105 #[v] w fun e w' => e = .returned (.bool false) ∧ w' = w := by
  rcases h with rfl | ⟨b, rfl, hb⟩
  · go_enter Tryz.func105, Tryz.ntmps105
    go_wp2
    go_ret
    exact ⟨rfl, rfl⟩
  · have c0 : w.cell? ⟨b, 0, none⟩ = some (.pointer none) := cell_at hb rfl
    clear hb
    go_enter Tryz.func105, Tryz.ntmps105
    go_wp2
    go_ret
    exact ⟨rfl, rfl⟩
end Go.Proofs.YtaikgklbafkalaaGreat
