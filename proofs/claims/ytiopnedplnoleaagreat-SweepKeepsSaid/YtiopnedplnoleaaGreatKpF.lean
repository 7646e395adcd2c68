/- estraylaw25.SweepKeeps: the closure; one; a row's first cells. -/
import Derived.Test.YtiopnedplnoleaaGreatKpD
import Derived.Test.YtiopnedplnoleaaGreatMgX
namespace Go.Proofs.YtiopnedplnoleaaGreat
open Go.RowKit
set_option linter.unusedVariables false

theorem Row.firsts {w : World} {base : Nat} {v : Value} {l : List Rf} (h : Row w base v l) (hl : l ≠ []) : ∃ g cap cur, v = .slice (some ⟨g, 0, none⟩) l.length cap ∧ base ≤ g ∧ w.heap[g]? = some (.cells cur 37) ∧ Firsts cur l ∧ l.length ≤ cap ∧ cap ≤ maxLen ∧ cur.size = cap * 2 := by
  obtain ⟨h1, h2⟩ := h
  rcases h2 with ⟨rfl, h2⟩ | ⟨g, cap, cur, rfl, hb, hg, r1, r2, r3, r4⟩
  · exact absurd (List.eq_nil_of_length_eq_zero h2) hl
  · refine ⟨g, cap, cur, rfl, hb, hg, fun j r hj => ?_, r1, r2, r3⟩
    have hlt : j < l.length := (List.getElem?_eq_some_iff.1 hj).1
    obtain ⟨a, b⟩ := encR_at hj
    rw [← r4] at a b
    rw [List.getElem?_take_of_lt (by omega), Array.getElem?_toList] at a b
    exact ⟨a, b⟩

theorem one25 (b : Bool) (w : World) : Calls Tryz.prog 64 #[.bool b] w fun e w' => e = .returned (.int .i64 (if b = true then 1 else 0)) ∧ w' = w := by
  cases b
  · go_enter Tryz.func64, Tryz.ntmps64
    go_wp2
    go_ret
    exact ⟨rfl, rfl⟩
  · go_enter Tryz.func64, Tryz.ntmps64
    go_wp2
    go_ret
    exact ⟨rfl, rfl⟩

theorem kpdel1 (B : Nat) (x r : Rf) (W : World) (h : W.heap[B]? = some (.cells #[.int .i64 r.s, .int .u32 r.g] 37)) :
    Calls Tryz.prog 66 (#[.agg #[.int .i64 x.s, .int .u32 x.g]] ++ #[.pointer (some ⟨B, 0, none⟩)]) W fun e W' => e = .returned (.bool (decide (x = r))) ∧ Keeps (fun _ => False) W W' := by
  obtain ⟨c0, c1, _, cl⟩ := cells2 h
  have heq := fun W => eql_ref W x.s x.g r.s r.g
  simp only [Rf.eq_iff] at heq
  clear h
  show Calls Tryz.prog 66 #[.agg #[.int .i64 x.s, .int .u32 x.g], .pointer (some ⟨B, 0, none⟩)] W _
  go_enter Tryz.func66, Tryz.ntmps66
  go_wp2_with fail
  go_ret
  exact ⟨rfl, (by repeat (first | exact Keeps.refl _ _ | apply Keeps.alloc | apply Keeps.drewN | apply Keeps.drew))⟩

end Go.Proofs.YtiopnedplnoleaaGreat
