/- Package marker: markers that New did not make, and arenas that New did not make. -/
import Derived.Test.YtafcjciolekdkaaGreatMgO
import Derived.Test.YtafcjciolekdkaaGreatMgP
namespace Go.Proofs.YtafcjciolekdkaaGreat
open Go.RowKit

def NoM (w : World) (v : Value) : Prop := v = .pointer none ∨ ∃ b, v = .pointer (some ⟨b, 0, none⟩) ∧ w.heap[b]? = some (.cells #[.int .i64 0, .int .i64 0, .pointer none, .pointer none, .pointer none, .slice none 0 0] 141)
theorem NoM.keeps0 {w w' : World} {v : Value} (h : NoM w v) (hk : Keeps (fun _ => False) w w') : NoM w' v := by
  rcases h with h | ⟨b, h, hb⟩
  · exact .inl h
  · exact .inr ⟨b, h, block_keep hb hk (fun h => h)⟩
def NoA (w : World) (v : Value) : Prop := v = .pointer none ∨ ∃ b, v = .pointer (some ⟨b, 0, none⟩) ∧
  w.heap[b]? = some (.cells #[.pointer none, .int .i64 0, .int .i64 0, .pointer none, .pointer none, .pointer none, .pointer none, .pointer none] 107)
theorem NoA.keeps0 {w w' : World} {v : Value} (h : NoA w v) (hk : Keeps (fun _ => False) w w') : NoA w' v := by
  rcases h with h | ⟨b, h, hb⟩
  · exact .inl h
  · exact .inr ⟨b, h, block_keep hb hk (fun h => h)⟩
theorem avalid_no (v : Value) (w : World) (h : NoA w v) : Calls Tryz.prog 72 #[v] w fun e w' => e = .returned (.bool false) ∧ w' = w := by
  rcases h with rfl | ⟨b, rfl, hb⟩
  · go_enter Tryz.func72, Tryz.ntmps72
    go_wp2
    go_ret
    exact ⟨rfl, rfl⟩
  · have c0 : w.cell? ⟨b, 0, none⟩ = some (.pointer none) := cell_at hb rfl
    clear hb
    go_enter Tryz.func72, Tryz.ntmps72
    go_wp2
    go_ret
    exact ⟨rfl, rfl⟩
theorem asizes_no (v : Value) (w : World) (h : NoA w v) : Calls Tryz.prog 49 #[v] w fun e w' => e = .returned (.tuple #[.int .i64 0, .int .i64 0]) ∧ w' = w := by
  have HV := hid (avalid_no v w h)
  clear h
  go_enter Tryz.func49, Tryz.ntmps49
  go_wp2_with fail
  refine (HV.out).mono ?_
  rintro e w' ⟨rfl, h'⟩
  obtain rfl := h'.symm
  go_wp2_with fail
  go_ret2
  exact ⟨rfl, rfl⟩
theorem mcheck_no (m : Nat) (L : MkL) (M : Mk) (v : Value) (w : World) (h : MkIn w m L M) (ha : NoA w v) :
    Calls Tryz.prog 140 #[.pointer (some ⟨m, 0, none⟩), v] w fun e w' => e = .returned (.int .i64 1) ∧ w' = w := by
  have HV := hid (mvalid m L M w h)
  have HS := hid (asizes_no v w ha)
  obtain ⟨c0, c1, c2, c3, c4, c5, cl⟩ := cells6 h.own
  clear h ha
  go_enter Tryz.func140, Tryz.ntmps140
  go_wp2_with fail
  refine (HV.out).mono ?_
  rintro e w' ⟨rfl, h'⟩
  obtain rfl := h'.symm
  go_wp2_with fail
  refine (HS.out).mono ?_
  rintro e w' ⟨rfl, h'⟩
  obtain rfl := h'.symm
  go_wp2_with fail
  go_ret
  exact ⟨rfl, rfl⟩
theorem mack_no (m : Nat) (L : MkL) (M : Mk) (v : Value) (s : Int) (w : World) (h : MkIn w m L M) (ha : NoA w v) :
    Calls Tryz.prog 68 #[.pointer (some ⟨m, 0, none⟩), v, .int .i64 s] w fun e w' => e = .returned (.tuple #[.bool false, .int .i64 1]) ∧ w' = w := by
  have HV := hid (mcheck_no m L M v w h ha)
  clear h ha
  go_enter Tryz.func68, Tryz.ntmps68
  go_wp2_with fail
  refine (HV.out).mono ?_
  rintro e w' ⟨rfl, h'⟩
  obtain rfl := h'.symm
  go_wp2_with fail
  go_ret2
  exact ⟨rfl, rfl⟩
end Go.Proofs.YtafcjciolekdkaaGreat
