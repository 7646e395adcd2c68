/- Package cycle: collectors and arenas that are nil, or were not made by New. -/
import Derived.Test.YtnjgkhgdgpahfaaGreatCyC
import Derived.Test.YtnjgkhgdgpahfaaGreatMgQ
import Derived.Test.YtnjgkhgdgpahfaaGreatCyM
namespace Go.Proofs.YtnjgkhgdgpahfaaGreat
open Go.RowKit
set_option linter.unusedVariables false
set_option linter.unusedSimpArgs false
set_option linter.unusedSectionVars false

def NoC (w : World) (v : Value) : Prop := v = .pointer none ∨ ∃ b, v = .pointer (some ⟨b, 0, none⟩) ∧ w.heap[b]? = some (.cells #[.pointer none, .pointer none, .int .i64 0, .int .i64 0, .int .i64 0, .int .i64 0, .bool false] 56)
theorem NoC.keeps0 {w w' : World} {v : Value} (h : NoC w v) (hk : Keeps (fun _ => False) w w') : NoC w' v := by
  rcases h with h | ⟨b, h, hb⟩
  · exact .inl h
  · exact .inr ⟨b, h, block_keep hb hk (fun h => h)⟩
theorem ncvalid (v : Value) (w : World) (h : NoC w v) : Calls Tryz.prog 26 #[v] w fun e w' => e = .returned (.bool false) ∧ w' = w := by
  rcases h with rfl | ⟨b, rfl, hb⟩
  · go_enter Tryz.func26, Tryz.ntmps26
    go_wp2
    go_ret
    exact ⟨rfl, rfl⟩
  · obtain ⟨c0, c1, c2, c3, c4, c5, c6, cl⟩ := cells7 hb
    clear hb
    go_enter Tryz.func26, Tryz.ntmps26
    go_wp2
    go_ret
    exact ⟨rfl, rfl⟩
theorem nc_ack (v a : Value) (i : Int) (w : World) (h : NoC w v) : Calls Tryz.prog 10 #[v, a, .int .i64 i] w fun e w' => e = .returned (.tuple #[.bool false, .int .i64 1]) ∧ w' = w := by
  have HV := hid (ncvalid v w h)
  clear h
  go_enter Tryz.func10, Tryz.ntmps10
  go_wp2_with fail
  refine (HV.out).mono ?_
  rintro e w' ⟨rfl, h'⟩
  obtain rfl := h'.symm
  go_wp2_with fail
  go_ret2
  exact ⟨rfl, rfl⟩
theorem nc_ask (v : Value) (w : World) (h : NoC w v) : Calls Tryz.prog 12 #[v] w fun e w' => e = .returned (.bool false) ∧ w' = w := by
  have HV := hid (ncvalid v w h)
  clear h
  go_enter Tryz.func12, Tryz.ntmps12
  go_wp2_with fail
  refine (HV.out).mono ?_
  rintro e w' ⟨rfl, h'⟩
  obtain rfl := h'.symm
  go_wp2_with fail
  go_ret
  exact ⟨rfl, rfl⟩
theorem nc_phase (v : Value) (w : World) (h : NoC w v) : Calls Tryz.prog 14 #[v] w fun e w' => e = .returned (.int .i64 0) ∧ w' = w := by
  have HV := hid (ncvalid v w h)
  clear h
  go_enter Tryz.func14, Tryz.ntmps14
  go_wp2_with fail
  refine (HV.out).mono ?_
  rintro e w' ⟨rfl, h'⟩
  obtain rfl := h'.symm
  go_wp2_with fail
  go_ret
  exact ⟨rfl, rfl⟩
set_option maxRecDepth 100000 in
theorem cystep_nil (v va : Value) (room n k : Int) (vb : Bool) (w : World)
    (hs : ∀ W, Keeps (fun _ => False) w W → Calls Tryz.prog 25 #[va] W fun e w' => e = .returned (.tuple #[.int .i64 n, .int .i64 k]) ∧ Keeps (fun _ => False) W w')
    (hv : ∀ W, Keeps (fun _ => False) w W → Calls Tryz.prog 26 #[v] W fun e w' => e = .returned (.bool vb) ∧ w' = W) (hbad : vb = false ∨ n = 0) :
    Calls Tryz.prog 8 #[v, va, .int .i64 room] w fun e w' => e = .returned (.tuple #[.agg #[.int .i64 0, .int .u32 0], .bool false, .int .i64 1]) ∧ Keeps (fun _ => False) w w' := by
  have HS := hid hs; have HV := hid hv
  clear hs hv
  cases vb
  · clear hbad
    go_enter Tryz.func8, Tryz.ntmps8
    go_wp2_with fail
    refine (HS.out _ ((Keeps.refl _ _).alloc _)).mono ?_
    rintro e w1 ⟨rfl, hk1⟩
    have HK1 := hid (((Keeps.refl (fun _ => False) w).alloc _).trans hk1)
    obtain ⟨a0, a1, af, al⟩ := cells2 (block_keep (alloc_new (w := w)) hk1 (fun h => h))
    have a0f := af 0; have a1f := af 1
    clear hk1 af
    go_wp2_with fail
    refine ((HV.out _ HK1.out)).mono ?_
    rintro e w' ⟨rfl, h'⟩
    obtain rfl := h'.symm
    go_wp2_with fail
    refine bodyPost_ret_by (v := .tuple #[Rf.no.val, .bool false, .int .i64 1]) (by simp [results, Tryz.results8, go_sem, Rf.val, Rf.no, *]) rfl ⟨rfl, Keeps.fresh ?_⟩
    repeat (first | (with_reducible exact HK1.out.up) | with_reducible refine Keeps.setCell ?_ ?_ _ | with_reducible refine Keeps.alloc ?_ _ | with_reducible refine Keeps.drewN ?_ _ | with_reducible refine Keeps.drew ?_)
    all_goals first | (left; simp; done) | (left; simp; omega) | (right; simp; done) | (right; simp; omega)
  · obtain rfl : n = 0 := hbad.resolve_left (fun h => by cases h)
    clear hbad
    go_enter Tryz.func8, Tryz.ntmps8
    go_wp2_with fail
    refine (HS.out _ ((Keeps.refl _ _).alloc _)).mono ?_
    rintro e w1 ⟨rfl, hk1⟩
    have HK1 := hid (((Keeps.refl (fun _ => False) w).alloc _).trans hk1)
    obtain ⟨a0, a1, af, al⟩ := cells2 (block_keep (alloc_new (w := w)) hk1 (fun h => h))
    have a0f := af 0; have a1f := af 1
    clear hk1 af
    go_wp2_with fail
    refine ((HV.out _ HK1.out)).mono ?_
    rintro e w' ⟨rfl, h'⟩
    obtain rfl := h'.symm
    go_wp2_with fail
    refine bodyPost_ret_by (v := .tuple #[Rf.no.val, .bool false, .int .i64 1]) (by simp [results, Tryz.results8, go_sem, Rf.val, Rf.no, *]) rfl ⟨rfl, Keeps.fresh ?_⟩
    repeat (first | (with_reducible exact HK1.out.up) | with_reducible refine Keeps.setCell ?_ ?_ _ | with_reducible refine Keeps.alloc ?_ _ | with_reducible refine Keeps.drewN ?_ _ | with_reducible refine Keeps.drew ?_)
    all_goals first | (left; simp; done) | (left; simp; omega) | (right; simp; done) | (right; simp; omega)
section
variable {w0 w w' : World} {a m b c : Nat} {LA : ArL} {LM : MkL} {k : Col}
end
end Go.Proofs.YtnjgkhgdgpahfaaGreat

/- estraylaw26.CycleNil: the walk. -/
namespace Go.Proofs.YtnjgkhgdgpahfaaGreat
open Go.RowKit Go.ChangeShapes Go.WideShapes Go.ChangeAt Go.Deep
set_option linter.unusedVariables false
set_option linter.unusedSimpArgs false

end Go.Proofs.YtnjgkhgdgpahfaaGreat
