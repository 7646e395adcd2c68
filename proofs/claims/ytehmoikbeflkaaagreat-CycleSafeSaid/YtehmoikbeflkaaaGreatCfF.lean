/- estraylaw26: reached: the walk. -/
import Derived.Test.YtehmoikbeflkaaaGreatCyM
import Derived.Test.YtehmoikbeflkaaaGreatRcM
import Derived.Test.YtehmoikbeflkaaaGreatRcH
import Derived.Deep.CutBlock
namespace Go.Proofs.YtehmoikbeflkaaaGreat
open Go.RowKit
set_option linter.unusedVariables false
set_option linter.unusedSimpArgs false
set_option linter.unusedSectionVars false

section
variable {w0 w w' : World} {p a m b c : Nat} {LA : ArL} {LM : MkL} {k : Col} {f : List Rf}
set_option maxRecDepth 100000 in
set_option maxHeartbeats 4000000 in
theorem preached (h : Pair w0 w p a m b c LA LM k f) (hok : k.Ok) (r : Rf) (hr : r.Wf) : Calls Tryz.prog 79 #[.pointer (some ⟨p, 0, none⟩), .agg #[.int .i64 r.s, .int .u32 r.g]] w
    fun e w' => e = .returned (.bool (decide (r ∈ k.s.A.rq.keys) && (ckV k.s.A.H.T r.s r.g == 0))) ∧ Keeps (fun _ => False) w w' := by
  have HIS := hid (fun W (hk : Keeps (fun _ => False) w W) => is_ok a LA k.s.A r W (h.same hk).q.tr.both.ar hok.s.a hr)
  have HPC := hid (fun W (hk : Keeps (fun _ => False) w W) => (pair_cells (h.same hk)).1)
  obtain ⟨x0, _, xl⟩ := pair_cells h
  obtain ⟨bi, hbi⟩ : ∃ bi, decide (r ∈ k.s.A.rq.keys) = bi := ⟨_, rfl⟩
  obtain ⟨ec, hec⟩ : ∃ ec, ckV k.s.A.H.T r.s r.g = ec := ⟨_, rfl⟩
  rw [hbi, hec] at HIS ⊢
  obtain ⟨w1, hw1⟩ : ∃ w1, w.alloc (.cells #[.int .i64 r.s, .int .u32 r.g] 33) = w1 := ⟨_, rfl⟩
  have HK1 := hid (show Keeps (fun _ => False) w w1 from by rw [← hw1]; exact (Keeps.refl _ _).alloc _)
  have HQ1 := hid (show w1.heap[w.heap.size]? = some (.cells #[.int .i64 r.s, .int .u32 r.g] 33) from by rw [← hw1]; exact alloc_new)
  have HPS := hid (fun W (hk : Keeps (fun _ => False) w1 W) => (show W.cell? ⟨p, 0, none⟩ = some (.pointer (some ⟨a, 0, none⟩)) ∧ W.cell? ⟨w.heap.size, 0, none⟩ = some (.int .i64 r.s) ∧ W.cell? ⟨w.heap.size, 1, none⟩ = some (.int .u32 r.g) from
    ⟨HPC.out W (HK1.out.trans hk), cell_at (block_keep HQ1.out hk (fun h => h)) rfl, cell_at (block_keep HQ1.out hk (fun h => h)) rfl⟩))
  obtain ⟨B, hB⟩ : ∃ B, w.heap.size = B := ⟨_, rfl⟩
  rw [hB] at HPS
  have HB := hid hB; have HW1 := hid hw1
  clear h hok hbi hec hr hB hw1 HQ1 HPC
  go_enter Tryz.func79, Tryz.ntmps79
  go_upto_region 1 with (fail)
  rw [HW1.out, HB.out]
  go_cut [5, 6] (fun s5 s6 wx => s5 = .bool bi ∧ s6 = .int .i64 ec ∧ Keeps (fun _ => False) w1 wx)
  case first =>
    refine wp_region_noPanic ?_
    refine wp_region_held_drew (S := (fun W => W.cell? ⟨p, 0, none⟩ = some (.pointer (some ⟨a, 0, none⟩)) ∧ W.cell? ⟨B, 0, none⟩ = some (.int .i64 r.s) ∧ W.cell? ⟨B, 1, none⟩ = some (.int .u32 r.g))) (by kernel_rfl) ?_ (fun hHeld => ?_)
    · exact HPS.out _ ((Keeps.refl _ _).drew)
    refine wpAnyH_take (i := 0) (v := ?_) rfl (by kernel_rfl) (by kernel_rfl) (by kernel_rfl) (fun _ _ _ h => h) (Or.inl ⟨by rfl, ?_⟩) (by assumption) ?_
    rotate_left
    · (intro w hSw; (try dsimp only at hSw); simp only [List.getElem_toArray, List.getElem_cons_zero, List.getElem_cons_succ]; go_simp; (first | done | with_reducible rfl))
    simp only [List.getElem_toArray, List.getElem_cons_zero, List.getElem_cons_succ, Act.put, List.setIfInBounds_toArray, List.set_cons_zero, List.set_cons_succ]
    refine wpAnyH_take (i := 1) (v := ?_) rfl (by kernel_rfl) (by kernel_rfl) (by kernel_rfl) (fun _ _ _ h => h) (Or.inl ⟨by rfl, ?_⟩) (by assumption) ?_
    rotate_left
    · (intro w hSw; (try dsimp only at hSw); simp only [List.getElem_toArray, List.getElem_cons_zero, List.getElem_cons_succ]; go_simp; (first | done | with_reducible rfl))
    simp only [List.getElem_toArray, List.getElem_cons_zero, List.getElem_cons_succ, Act.put, List.setIfInBounds_toArray, List.set_cons_zero, List.set_cons_succ]
    refine wpAnyH_take (i := 2) (v := ?_) rfl (by kernel_rfl) (by kernel_rfl) (by kernel_rfl) (fun _ _ _ h => h) (Or.inl ⟨by rfl, ?_⟩) (by assumption) ?_
    rotate_left
    · (intro w hSw; (try dsimp only at hSw); simp only [List.getElem_toArray, List.getElem_cons_zero, List.getElem_cons_succ]; go_simp; (first | done | with_reducible rfl))
    simp only [List.getElem_toArray, List.getElem_cons_zero, List.getElem_cons_succ, Act.put, List.setIfInBounds_toArray, List.set_cons_zero, List.set_cons_succ]
    refine wpAnyH_take (i := 3) (v := ?_) rfl (by kernel_rfl) (by kernel_rfl) (by kernel_rfl) (fun _ _ _ h => h) (Or.inl ⟨by rfl, ?_⟩) (by assumption) ?_
    rotate_left
    · (intro w hSw; (try dsimp only at hSw); simp only [List.getElem_toArray, List.getElem_cons_zero, List.getElem_cons_succ]; go_simp; (first | done | with_reducible rfl))
    simp only [List.getElem_toArray, List.getElem_cons_zero, List.getElem_cons_succ, Act.put, List.setIfInBounds_toArray, List.set_cons_zero, List.set_cons_succ]
    refine wpAnyH_take (i := 4) (v := ?_) rfl (by kernel_rfl) (by kernel_rfl) (by kernel_rfl) (fun _ _ _ h => h) (Or.inl ⟨by rfl, ?_⟩) (by assumption) ?_
    rotate_left
    · (intro w hSw; (try dsimp only at hSw); simp only [List.getElem_toArray, List.getElem_cons_zero, List.getElem_cons_succ]; go_simp; (first | done | with_reducible rfl))
    simp only [List.getElem_toArray, List.getElem_cons_zero, List.getElem_cons_succ, Act.put, List.setIfInBounds_toArray, List.set_cons_zero, List.set_cons_succ]
    refine wpAnyH_ready (rs := [5]) (by kernel_rfl) (by simp) ?_
    refine AllReadyH.cons rfl (fun K hK => ?_) ?_
    rotate_left
    · exact AllReadyH.nil
    go_simp
    go_at_call 36; refine (HIS.out _ (HK1.out.trans (by (repeat (first | with_reducible exact Keeps.refl _ _ | with_reducible refine Keeps.drewN ?_ _ | with_reducible refine Keeps.drew ?_ | with_reducible refine Keeps.alloc ?_ _ | with_reducible refine Keeps.trans ?_ k9))))).mono ?_; rintro e w9 ⟨rfl, k9⟩
    refine hK.out _ _ ?_ (fun hHeld => ?_)
    · exact HPS.out _ (by (repeat (first | with_reducible exact Keeps.refl _ _ | with_reducible refine Keeps.drewN ?_ _ | with_reducible refine Keeps.drew ?_ | with_reducible refine Keeps.alloc ?_ _ | with_reducible refine Keeps.trans ?_ k9)))
    clear hK K
    try dsimp only [Act.put, List.setIfInBounds_toArray, List.set_cons_zero, List.set_cons_succ]
    refine wpAnyH_take (i := 6) (v := ?_) rfl (by kernel_rfl) (by kernel_rfl) (by kernel_rfl) (fun _ _ _ h => h) (Or.inl ⟨by rfl, ?_⟩) (by assumption) ?_
    rotate_left
    · (intro w hSw; (try dsimp only at hSw); simp only [List.getElem_toArray, List.getElem_cons_zero, List.getElem_cons_succ]; go_simp; (first | done | with_reducible rfl))
    simp only [List.getElem_toArray, List.getElem_cons_zero, List.getElem_cons_succ, Act.put, List.setIfInBounds_toArray, List.set_cons_zero, List.set_cons_succ]
    refine wpAnyH_take (i := 7) (v := ?_) rfl (by kernel_rfl) (by kernel_rfl) (by kernel_rfl) (fun _ _ _ h => h) (Or.inl ⟨by rfl, ?_⟩) (by assumption) ?_
    rotate_left
    · (intro w hSw; (try dsimp only at hSw); simp only [List.getElem_toArray, List.getElem_cons_zero, List.getElem_cons_succ]; go_simp; (first | done | with_reducible rfl))
    simp only [List.getElem_toArray, List.getElem_cons_zero, List.getElem_cons_succ, Act.put, List.setIfInBounds_toArray, List.set_cons_zero, List.set_cons_succ]
    refine wpAnyH_take (i := 8) (v := ?_) rfl (by kernel_rfl) (by kernel_rfl) (by kernel_rfl) (fun _ _ _ h => h) (Or.inl ⟨by rfl, ?_⟩) (by assumption) ?_
    rotate_left
    · (intro w hSw; (try dsimp only at hSw); simp only [List.getElem_toArray, List.getElem_cons_zero, List.getElem_cons_succ]; go_simp; (first | done | with_reducible rfl))
    simp only [List.getElem_toArray, List.getElem_cons_zero, List.getElem_cons_succ, Act.put, List.setIfInBounds_toArray, List.set_cons_zero, List.set_cons_succ]
    refine wpAnyH_take (i := 9) (v := ?_) rfl (by kernel_rfl) (by kernel_rfl) (by kernel_rfl) (fun _ _ _ h => h) (Or.inl ⟨by rfl, ?_⟩) (by assumption) ?_
    rotate_left
    · (intro w hSw; (try dsimp only at hSw); simp only [List.getElem_toArray, List.getElem_cons_zero, List.getElem_cons_succ]; go_simp; (first | done | with_reducible rfl))
    simp only [List.getElem_toArray, List.getElem_cons_zero, List.getElem_cons_succ, Act.put, List.setIfInBounds_toArray, List.set_cons_zero, List.set_cons_succ]
    refine wpAnyH_take (i := 10) (v := ?_) rfl (by kernel_rfl) (by kernel_rfl) (by kernel_rfl) (fun _ _ _ h => h) (Or.inl ⟨by rfl, ?_⟩) (by assumption) ?_
    rotate_left
    · (intro w hSw; (try dsimp only at hSw); simp only [List.getElem_toArray, List.getElem_cons_zero, List.getElem_cons_succ]; go_simp; (first | done | with_reducible rfl))
    simp only [List.getElem_toArray, List.getElem_cons_zero, List.getElem_cons_succ, Act.put, List.setIfInBounds_toArray, List.set_cons_zero, List.set_cons_succ]
    refine wpAnyH_done (by kernel_rfl) ?_ _
    refine NoPanic.normal ?_
    all_goals
      go_wp2_with fail
      go_meet
      exact ⟨rfl, rfl, (by (repeat (first | with_reducible exact Keeps.refl _ _ | with_reducible refine Keeps.drewN ?_ _ | with_reducible refine Keeps.drew ?_ | with_reducible refine Keeps.alloc ?_ _ | with_reducible refine Keeps.trans ?_ k9)))⟩
  case rest =>
  obtain ⟨rfl, rfl, hkx⟩ := hcut
  have HKX := hid hkx
  clear hkx
  by_cases hz : ec = 0
  · have hbe : (ec == 0) = true := by simp [hz]
    go_wp2_with fail
    go_ret
    exact ⟨rfl, HK1.out.trans HKX.out⟩
  · have hbe : (ec == 0) = false := by simpa using hz
    go_wp2_with fail
    go_ret
    exact ⟨rfl, HK1.out.trans HKX.out⟩
end

end Go.Proofs.YtehmoikbeflkaaaGreat
