/- estrayref19: Is. -/
import Derived.Test.YtkpnmajocgcccaaGreatRgG
namespace Go.Proofs.YtkpnmajocgcccaaGreat
open Go.RowKit
set_option linter.unusedVariables false
set_option linter.unusedSimpArgs false

theorem cp_done {w W : World} {x : Nat} {L : L18} {A : Ar} {b' r' g' cap' n k : Nat} {f0 f1 f2 f3 f4 f5 f6 f7 : Rf} (h : R18 w x L A) (hn : A.many = n) (hk : A.H.T.n = k) (hgl : A.gl 0 = f0 ∧ A.gl 1 = f1 ∧ A.gl 2 = f2 ∧ A.gl 3 = f3 ∧ A.gl 4 = f4 ∧ A.gl 5 = f5 ∧ A.gl 6 = f6 ∧ A.gl 7 = f7)
    (kW : Keeps (fun _ => False) w W) (h14 : R14 W b' r' A.H) (hb : w.heap.size ≤ b') (hown : W.ownsRow w.heap.size 23 1 (.slice (some ⟨g', 0, none⟩) n cap') n (slotsL (fun i => [L.sv i]) n)) :
    Keeps (fun _ => False) w (W.alloc (.cells #[.bool true, .int .i64 k, .pointer (some ⟨b', 0, none⟩), .slice (some ⟨g', 0, none⟩) n cap', .int .i64 f0.s, .int .u32 f0.g, .int .i64 f1.s, .int .u32 f1.g, .int .i64 f2.s, .int .u32 f2.g, .int .i64 f3.s, .int .u32 f3.g, .int .i64 f4.s, .int .u32 f4.g, .int .i64 f5.s, .int .u32 f5.g, .int .i64 f6.s, .int .u32 f6.g, .int .i64 f7.s, .int .u32 f7.g] 83)) ∧ w.heap.size ≤ W.heap.size ∧ ∃ L' : L18, w.heap.size ≤ L'.hb ∧
    R18 (W.alloc (.cells #[.bool true, .int .i64 k, .pointer (some ⟨b', 0, none⟩), .slice (some ⟨g', 0, none⟩) n cap', .int .i64 f0.s, .int .u32 f0.g, .int .i64 f1.s, .int .u32 f1.g, .int .i64 f2.s, .int .u32 f2.g, .int .i64 f3.s, .int .u32 f3.g, .int .i64 f4.s, .int .u32 f4.g, .int .i64 f5.s, .int .u32 f5.g, .int .i64 f6.s, .int .u32 f6.g, .int .i64 f7.s, .int .u32 f7.g] 83)) W.heap.size L' A := by
  subst hn; subst hk
  obtain ⟨rfl, rfl, rfl, rfl, rfl, rfl, rfl, rfl⟩ := hgl
  obtain ⟨cur, hcur, k1, k2, k3, k4⟩ := rowS_of (svL_len L) hown
  refine ⟨kW.alloc _, kW.size, ⟨b', r', g', L.sv⟩, hb, ⟨_, cap', alloc_new, rfl, rfl, rfl, rfl, rfl, ?_, k1, k2⟩, h14.keeps ((Keeps.refl (fun _ => False) _).alloc _) (fun h => h) (fun h => h), ⟨cur, alloc_old hcur, fun j hj => ?_⟩, fun j hj => (h.st j hj).keeps (kW.alloc _) (fun _ _ h => h), h.ok⟩
  · intro i hi
    have : i = 0 ∨ i = 1 ∨ i = 2 ∨ i = 3 ∨ i = 4 ∨ i = 5 ∨ i = 6 ∨ i = 7 := by omega
    rcases this with rfl | rfl | rfl | rfl | rfl | rfl | rfl | rfl <;> exact ⟨rfl, rfl⟩
  · have := k4 j 0 hj (by omega)
    rw [Nat.mul_one, Nat.add_zero] at this
    rw [this]; rfl
section
variable {w w' : World} {x N : Nat} {L : L18} {A A' : Ar}
set_option maxRecDepth 100000 in
set_option maxHeartbeats 4000000 in
theorem copy18 (h : R18 w x L A) :
    Calls Tryz.prog 65 #[.pointer (some ⟨x, 0, none⟩)] w fun e w' => ∃ x' L', e = .returned (.pointer (some ⟨x', 0, none⟩)) ∧ Keeps (fun _ => False) w w' ∧ w.heap.size ≤ x' ∧ w.heap.size ≤ L'.hb ∧ R18 w' x' L' A := by
  have HVA := hid (valid18 x w h.made)
  have HH := hid h
  obtain ⟨ri, hi1, hi2, hi3, hi4⟩ := rows_info
  have hmany := h.ok.m4
  have hmany1 := h.ok.m1
  obtain ⟨hlx, hls⟩ := h.lt
  have up : ∀ {W : World}, Keeps (fun y => w.heap.size ≤ y) w W → Keeps (fun _ => False) w W := fun hk => Keeps.fresh hk
  have HNEWS := hid (fun W (hk : Keeps (fun y => w.heap.size ≤ y) w W) => (h.k0 (up hk)).svs)
  have HONE := hid (show ∀ u ∈ slotsL (fun i => [L.sv i]) A.many, u.oneCell' = true by
    intro u hu
    obtain ⟨i, hi, hu⟩ := List.mem_flatMap.1 hu
    have hi' : i < A.many := by simpa using hi
    obtain ⟨p, c, e, _⟩ := h.sl hi'
    rw [List.mem_singleton.1 hu, e]; rfl)
  have HCP := hid (fun W (hk : Keeps (fun y => w.heap.size ≤ y) w W) => copy14 (h.k0 (up hk)).heap)
  have HOWN := hid (fun (W : World) (B : Nat) (hB : W.heap[B]? = some (.cells #[] 23)) (hw : w.heap.size ≤ B) => show W.ownsRow w.heap.size 23 1 (.slice (some ⟨B, 0, none⟩) 0 0) 0 [] from ⟨by simp, .inr ⟨B, 0, #[], rfl, hw, hB, by simp, by simp, by simp, by simp⟩⟩)
  obtain ⟨cx, cap, x1, x2, x3, x4, x5, x6, x7, x8, x9⟩ := h.own
  have g0 := x7 0 (by omega); have g1 := x7 1 (by omega); have g2 := x7 2 (by omega); have g3 := x7 3 (by omega)
  have g4 := x7 4 (by omega); have g5 := x7 5 (by omega); have g6 := x7 6 (by omega); have g7 := x7 7 (by omega)
  obtain ⟨f0, e0⟩ : ∃ f, A.gl 0 = f := ⟨_, rfl⟩
  obtain ⟨f1, e1⟩ : ∃ f, A.gl 1 = f := ⟨_, rfl⟩
  obtain ⟨f2, e2⟩ : ∃ f, A.gl 2 = f := ⟨_, rfl⟩
  obtain ⟨f3, e3⟩ : ∃ f, A.gl 3 = f := ⟨_, rfl⟩
  obtain ⟨f4, e4⟩ : ∃ f, A.gl 4 = f := ⟨_, rfl⟩
  obtain ⟨f5, e5⟩ : ∃ f, A.gl 5 = f := ⟨_, rfl⟩
  obtain ⟨f6, e6⟩ : ∃ f, A.gl 6 = f := ⟨_, rfl⟩
  obtain ⟨f7, e7⟩ : ∃ f, A.gl 7 = f := ⟨_, rfl⟩
  have HE := hid (And.intro e0 (And.intro e1 (And.intro e2 (And.intro e3 (And.intro e4 (And.intro e5 (And.intro e6 e7)))))))
  rw [e0] at g0; rw [e1] at g1; rw [e2] at g2; rw [e3] at g3; rw [e4] at g4; rw [e5] at g5; rw [e6] at g6; rw [e7] at g7
  obtain ⟨n, hn⟩ : ∃ n, A.many = n := ⟨_, rfl⟩
  obtain ⟨hn', hhn⟩ : ∃ k, A.H.T.n = k := ⟨_, rfl⟩
  rw [hn] at x6 x8 HNEWS HONE hmany hmany1
  rw [hhn] at x4
  have HPS := hid (fun W (hk : Keeps (fun y => w.heap.size ≤ y) w W) => show W.cell? ⟨x, 1, none⟩ = some (.int .i64 hn') ∧ W.cell? ⟨x, 2, none⟩ = some (.pointer (some ⟨L.hb, 0, none⟩)) ∧ W.cell? ⟨x, 3, none⟩ = some (.slice (some ⟨L.sr, 0, none⟩) n cap) ∧
      (W.cell? ⟨x, 4, none⟩ = some (.int .i64 f0.s) ∧ W.cell? ⟨x, 5, none⟩ = some (.int .u32 f0.g)) ∧ (W.cell? ⟨x, 6, none⟩ = some (.int .i64 f1.s) ∧ W.cell? ⟨x, 7, none⟩ = some (.int .u32 f1.g)) ∧
      (W.cell? ⟨x, 8, none⟩ = some (.int .i64 f2.s) ∧ W.cell? ⟨x, 9, none⟩ = some (.int .u32 f2.g)) ∧ (W.cell? ⟨x, 10, none⟩ = some (.int .i64 f3.s) ∧ W.cell? ⟨x, 11, none⟩ = some (.int .u32 f3.g)) ∧
      (W.cell? ⟨x, 12, none⟩ = some (.int .i64 f4.s) ∧ W.cell? ⟨x, 13, none⟩ = some (.int .u32 f4.g)) ∧ (W.cell? ⟨x, 14, none⟩ = some (.int .i64 f5.s) ∧ W.cell? ⟨x, 15, none⟩ = some (.int .u32 f5.g)) ∧
      (W.cell? ⟨x, 16, none⟩ = some (.int .i64 f6.s) ∧ W.cell? ⟨x, 17, none⟩ = some (.int .u32 f6.g)) ∧ (W.cell? ⟨x, 18, none⟩ = some (.int .i64 f7.s) ∧ W.cell? ⟨x, 19, none⟩ = some (.int .u32 f7.g)) from by
    have q := block_keep x1 hk (by omega)
    exact ⟨cell_at q x4, cell_at q x5, cell_at q x6, ⟨cell_at q g0.1, cell_at q g0.2⟩, ⟨cell_at q g1.1, cell_at q g1.2⟩, ⟨cell_at q g2.1, cell_at q g2.2⟩, ⟨cell_at q g3.1, cell_at q g3.2⟩, ⟨cell_at q g4.1, cell_at q g4.2⟩, ⟨cell_at q g5.1, cell_at q g5.2⟩, ⟨cell_at q g6.1, cell_at q g6.2⟩, ⟨cell_at q g7.1, cell_at q g7.2⟩⟩)
  have HN := hid hn; have HHN := hid hhn
  unfold maxLen at x9
  clear h up x1 x2 x3 x4 x5 x6 x7 g0 g1 g2 g3 g4 g5 g6 g7 e0 e1 e2 e3 e4 e5 e6 e7 hn hhn
  go_enter Tryz.func65, Tryz.ntmps65
  go_wp2_with fail
  refine (HVA.out).mono ?_
  rintro e w' ⟨rfl, h'⟩
  obtain rfl := h'.symm
  go_upto_region 3 with (fail)
  refine wp_region_last 21 (fun W => W.cell? ⟨x, 1, none⟩ = some (.int .i64 hn') ∧ W.cell? ⟨x, 2, none⟩ = some (.pointer (some ⟨L.hb, 0, none⟩)) ∧ W.cell? ⟨x, 3, none⟩ = some (.slice (some ⟨L.sr, 0, none⟩) n cap) ∧
      (W.cell? ⟨x, 4, none⟩ = some (.int .i64 f0.s) ∧ W.cell? ⟨x, 5, none⟩ = some (.int .u32 f0.g)) ∧ (W.cell? ⟨x, 6, none⟩ = some (.int .i64 f1.s) ∧ W.cell? ⟨x, 7, none⟩ = some (.int .u32 f1.g)) ∧
      (W.cell? ⟨x, 8, none⟩ = some (.int .i64 f2.s) ∧ W.cell? ⟨x, 9, none⟩ = some (.int .u32 f2.g)) ∧ (W.cell? ⟨x, 10, none⟩ = some (.int .i64 f3.s) ∧ W.cell? ⟨x, 11, none⟩ = some (.int .u32 f3.g)) ∧
      (W.cell? ⟨x, 12, none⟩ = some (.int .i64 f4.s) ∧ W.cell? ⟨x, 13, none⟩ = some (.int .u32 f4.g)) ∧ (W.cell? ⟨x, 14, none⟩ = some (.int .i64 f5.s) ∧ W.cell? ⟨x, 15, none⟩ = some (.int .u32 f5.g)) ∧
      (W.cell? ⟨x, 16, none⟩ = some (.int .i64 f6.s) ∧ W.cell? ⟨x, 17, none⟩ = some (.int .u32 f6.g)) ∧ (W.cell? ⟨x, 18, none⟩ = some (.int .i64 f7.s) ∧ W.cell? ⟨x, 19, none⟩ = some (.int .u32 f7.g))) (by kernel_rfl) (HPS.out _ (Keeps.refl _ _).drew) (fun hS => ?_)
  refine wpAnyT_take (i := 0) (v := ?_) rfl (by kernel_rfl) (by kernel_rfl) (by kernel_rfl) (by kernel_rfl) (fun _ _ _ h => h) (Or.inl ⟨by rfl, ?_⟩) (by assumption) ?_
  rotate_left
  · (intro w hSw; (try dsimp only at hSw); simp only [List.getElem_toArray, List.getElem_cons_zero, List.getElem_cons_succ]; go_simp; (first | done | with_reducible rfl))
  simp only [List.getElem_toArray, List.getElem_cons_zero, List.getElem_cons_succ, Act.put, List.setIfInBounds_toArray, List.set_cons_zero, List.set_cons_succ]
  refine wpAnyT_take (i := 1) (v := ?_) rfl (by kernel_rfl) (by kernel_rfl) (by kernel_rfl) (by kernel_rfl) (fun _ _ _ h => h) (Or.inl ⟨by rfl, ?_⟩) (by assumption) ?_
  rotate_left
  · (intro w hSw; (try dsimp only at hSw); simp only [List.getElem_toArray, List.getElem_cons_zero, List.getElem_cons_succ]; go_simp; (first | done | with_reducible rfl))
  simp only [List.getElem_toArray, List.getElem_cons_zero, List.getElem_cons_succ, Act.put, List.setIfInBounds_toArray, List.set_cons_zero, List.set_cons_succ]
  refine wpAnyT_take (i := 2) (v := ?_) rfl (by kernel_rfl) (by kernel_rfl) (by kernel_rfl) (by kernel_rfl) (fun _ _ _ h => h) (Or.inl ⟨by rfl, ?_⟩) (by assumption) ?_
  rotate_left
  · (intro w hSw; (try dsimp only at hSw); simp only [List.getElem_toArray, List.getElem_cons_zero, List.getElem_cons_succ]; go_simp; (first | done | with_reducible rfl))
  simp only [List.getElem_toArray, List.getElem_cons_zero, List.getElem_cons_succ, Act.put, List.setIfInBounds_toArray, List.set_cons_zero, List.set_cons_succ]
  refine wpAnyT_take (i := 3) (v := ?_) rfl (by kernel_rfl) (by kernel_rfl) (by kernel_rfl) (by kernel_rfl) (fun _ _ _ h => h) (Or.inl ⟨by rfl, ?_⟩) (by assumption) ?_
  rotate_left
  · (intro w hSw; (try dsimp only at hSw); simp only [List.getElem_toArray, List.getElem_cons_zero, List.getElem_cons_succ]; go_simp; (first | done | with_reducible rfl))
  simp only [List.getElem_toArray, List.getElem_cons_zero, List.getElem_cons_succ, Act.put, List.setIfInBounds_toArray, List.set_cons_zero, List.set_cons_succ]
  refine wpAnyT_take (i := 4) (v := ?_) rfl (by kernel_rfl) (by kernel_rfl) (by kernel_rfl) (by kernel_rfl) (fun _ _ _ h => h) (Or.inl ⟨by rfl, ?_⟩) (by assumption) ?_
  rotate_left
  · (intro w hSw; (try dsimp only at hSw); simp only [List.getElem_toArray, List.getElem_cons_zero, List.getElem_cons_succ]; go_simp; (first | done | with_reducible rfl))
  simp only [List.getElem_toArray, List.getElem_cons_zero, List.getElem_cons_succ, Act.put, List.setIfInBounds_toArray, List.set_cons_zero, List.set_cons_succ]
  refine wpAnyT_take (i := 5) (v := ?_) rfl (by kernel_rfl) (by kernel_rfl) (by kernel_rfl) (by kernel_rfl) (fun _ _ _ h => h) (Or.inl ⟨by rfl, ?_⟩) (by assumption) ?_
  rotate_left
  · (intro w hSw; (try dsimp only at hSw); simp only [List.getElem_toArray, List.getElem_cons_zero, List.getElem_cons_succ]; go_simp; (first | done | with_reducible rfl))
  simp only [List.getElem_toArray, List.getElem_cons_zero, List.getElem_cons_succ, Act.put, List.setIfInBounds_toArray, List.set_cons_zero, List.set_cons_succ]
  refine wpAnyT_take (i := 6) (v := ?_) rfl (by kernel_rfl) (by kernel_rfl) (by kernel_rfl) (by kernel_rfl) (fun _ _ _ h => h) (Or.inl ⟨by rfl, ?_⟩) (by assumption) ?_
  rotate_left
  · (intro w hSw; (try dsimp only at hSw); simp only [List.getElem_toArray, List.getElem_cons_zero, List.getElem_cons_succ]; go_simp; (first | done | with_reducible rfl))
  simp only [List.getElem_toArray, List.getElem_cons_zero, List.getElem_cons_succ, Act.put, List.setIfInBounds_toArray, List.set_cons_zero, List.set_cons_succ]
  refine wpAnyT_take (i := 7) (v := ?_) rfl (by kernel_rfl) (by kernel_rfl) (by kernel_rfl) (by kernel_rfl) (fun _ _ _ h => h) (Or.inl ⟨by rfl, ?_⟩) (by assumption) ?_
  rotate_left
  · (intro w hSw; (try dsimp only at hSw); simp only [List.getElem_toArray, List.getElem_cons_zero, List.getElem_cons_succ]; go_simp; (first | done | with_reducible rfl))
  simp only [List.getElem_toArray, List.getElem_cons_zero, List.getElem_cons_succ, Act.put, List.setIfInBounds_toArray, List.set_cons_zero, List.set_cons_succ]
  refine wpAnyT_take (i := 10) (v := ?_) rfl (by kernel_rfl) (by kernel_rfl) (by kernel_rfl) (by kernel_rfl) (fun _ _ _ h => h) (Or.inl ⟨by rfl, ?_⟩) (by assumption) ?_
  rotate_left
  · (intro w hSw; (try dsimp only at hSw); simp only [List.getElem_toArray, List.getElem_cons_zero, List.getElem_cons_succ]; go_simp; (first | done | with_reducible rfl))
  simp only [List.getElem_toArray, List.getElem_cons_zero, List.getElem_cons_succ, Act.put, List.setIfInBounds_toArray, List.set_cons_zero, List.set_cons_succ]
  refine wpAnyT_take (i := 11) (v := ?_) rfl (by kernel_rfl) (by kernel_rfl) (by kernel_rfl) (by kernel_rfl) (fun _ _ _ h => h) (Or.inl ⟨by rfl, ?_⟩) (by assumption) ?_
  rotate_left
  · (intro w hSw; (try dsimp only at hSw); simp only [List.getElem_toArray, List.getElem_cons_zero, List.getElem_cons_succ]; go_simp; (first | done | with_reducible rfl))
  simp only [List.getElem_toArray, List.getElem_cons_zero, List.getElem_cons_succ, Act.put, List.setIfInBounds_toArray, List.set_cons_zero, List.set_cons_succ]
  refine wpAnyT_take (i := 12) (v := ?_) rfl (by kernel_rfl) (by kernel_rfl) (by kernel_rfl) (by kernel_rfl) (fun _ _ _ h => h) (Or.inl ⟨by rfl, ?_⟩) (by assumption) ?_
  rotate_left
  · (intro w hSw; (try dsimp only at hSw); simp only [List.getElem_toArray, List.getElem_cons_zero, List.getElem_cons_succ]; go_simp; (first | done | with_reducible rfl))
  simp only [List.getElem_toArray, List.getElem_cons_zero, List.getElem_cons_succ, Act.put, List.setIfInBounds_toArray, List.set_cons_zero, List.set_cons_succ]
  refine wpAnyT_take (i := 13) (v := ?_) rfl (by kernel_rfl) (by kernel_rfl) (by kernel_rfl) (by kernel_rfl) (fun _ _ _ h => h) (Or.inl ⟨by rfl, ?_⟩) (by assumption) ?_
  rotate_left
  · (intro w hSw; (try dsimp only at hSw); simp only [List.getElem_toArray, List.getElem_cons_zero, List.getElem_cons_succ]; go_simp; (first | done | with_reducible rfl))
  simp only [List.getElem_toArray, List.getElem_cons_zero, List.getElem_cons_succ, Act.put, List.setIfInBounds_toArray, List.set_cons_zero, List.set_cons_succ]
  refine wpAnyT_take (i := 15) (v := ?_) rfl (by kernel_rfl) (by kernel_rfl) (by kernel_rfl) (by kernel_rfl) (fun _ _ _ h => h) (Or.inl ⟨by rfl, ?_⟩) (by assumption) ?_
  rotate_left
  · (intro w hSw; (try dsimp only at hSw); simp only [List.getElem_toArray, List.getElem_cons_zero, List.getElem_cons_succ]; go_simp; (first | done | with_reducible rfl))
  simp only [List.getElem_toArray, List.getElem_cons_zero, List.getElem_cons_succ, Act.put, List.setIfInBounds_toArray, List.set_cons_zero, List.set_cons_succ]
  refine wpAnyT_take (i := 16) (v := ?_) rfl (by kernel_rfl) (by kernel_rfl) (by kernel_rfl) (by kernel_rfl) (fun _ _ _ h => h) (Or.inl ⟨by rfl, ?_⟩) (by assumption) ?_
  rotate_left
  · (intro w hSw; (try dsimp only at hSw); simp only [List.getElem_toArray, List.getElem_cons_zero, List.getElem_cons_succ]; go_simp; (first | done | with_reducible rfl))
  simp only [List.getElem_toArray, List.getElem_cons_zero, List.getElem_cons_succ, Act.put, List.setIfInBounds_toArray, List.set_cons_zero, List.set_cons_succ]
  refine wpAnyT_take (i := 17) (v := ?_) rfl (by kernel_rfl) (by kernel_rfl) (by kernel_rfl) (by kernel_rfl) (fun _ _ _ h => h) (Or.inl ⟨by rfl, ?_⟩) (by assumption) ?_
  rotate_left
  · (intro w hSw; (try dsimp only at hSw); simp only [List.getElem_toArray, List.getElem_cons_zero, List.getElem_cons_succ]; go_simp; (first | done | with_reducible rfl))
  simp only [List.getElem_toArray, List.getElem_cons_zero, List.getElem_cons_succ, Act.put, List.setIfInBounds_toArray, List.set_cons_zero, List.set_cons_succ]
  refine wpAnyT_take (i := 18) (v := ?_) rfl (by kernel_rfl) (by kernel_rfl) (by kernel_rfl) (by kernel_rfl) (fun _ _ _ h => h) (Or.inl ⟨by rfl, ?_⟩) (by assumption) ?_
  rotate_left
  · (intro w hSw; (try dsimp only at hSw); simp only [List.getElem_toArray, List.getElem_cons_zero, List.getElem_cons_succ]; go_simp; (first | done | with_reducible rfl))
  simp only [List.getElem_toArray, List.getElem_cons_zero, List.getElem_cons_succ, Act.put, List.setIfInBounds_toArray, List.set_cons_zero, List.set_cons_succ]
  refine wpAnyT_ready (rs := [8, 9]) (by kernel_rfl) (by simp) ?_
  refine AllReadyT.cons rfl rfl (fun K hK => ?_) (AllReadyT.cons rfl rfl (fun K hK => ?_) AllReadyT.nil)
  · go_simp
    go_at_call 61
    refine (HCP.out _ (by repeat (first | with_reducible exact Keeps.refl _ _ | with_reducible refine Keeps.alloc ?_ _ | with_reducible refine Keeps.drew ?_ | with_reducible refine Keeps.trans ?_ (by with_reducible assumption)))).mono ?_
    rintro e w5 ⟨b', r', rfl, k5, hb5, hr5, h5⟩
    have hs5 := k5.size
    simp only [World.size_alloc, World.size_drew] at hs5 hb5 hr5
    have k5' : Keeps (fun y => w.heap.size ≤ y) _ w5 := k5.up
    refine hK.out _ _ ?_ (fun hHeld => ?_)
    · exact HPS.out _ (by repeat (first | with_reducible exact Keeps.refl _ _ | with_reducible refine Keeps.alloc ?_ _ | with_reducible refine Keeps.drew ?_ | with_reducible refine Keeps.trans ?_ (by with_reducible assumption)))
    clear hK K
    try dsimp only [Act.put, List.setIfInBounds_toArray, List.set_cons_zero, List.set_cons_succ]
    refine wpAnyT_ready (rs := [9]) (by kernel_rfl) (by simp) ?_
    refine AllReadyT.cons rfl rfl (fun K hK => ?_) AllReadyT.nil
    go_simp
    refine hK.out _ _ ?_ (fun hHeld => ?_)
    · exact HPS.out _ (by repeat (first | with_reducible exact Keeps.refl _ _ | with_reducible refine Keeps.alloc ?_ _ | with_reducible refine Keeps.drew ?_ | with_reducible refine Keeps.trans ?_ (by with_reducible assumption)))
    clear hK K
    try dsimp only [Act.put, List.setIfInBounds_toArray, List.set_cons_zero, List.set_cons_succ]
    refine wpAnyT_ready (rs := [14]) (by kernel_rfl) (by simp) ?_
    refine AllReadyT.cons rfl rfl (fun K hK => ?_) AllReadyT.nil
    refine step_append_lies _ rfl _ _ 80 rfl w.heap.size 23 ri (.slice none 0 0) 1 24 Tryz.underlying80 hi1 hi2 hi3 hi4 rfl (by decide) (.slice (some ⟨_, 0, none⟩) 0 0) 0 [] rfl (HOWN.out _ _ (by first | exact alloc_new | exact alloc_old alloc_new | exact alloc_new' (by simp) | assumption) (by first | omega | (simp; done) | (simp; omega))) ⟨L.sr, 0, none⟩ n cap (slotsL (fun i => [L.sv i]) n) rfl (by rw [slotsL_len (svL_len L)]) ?c1 ?c2 (by omega) ?c3 ?c4 ?c5 _ rfl ?_
    case c1 => exact HNEWS.out _ (by repeat (first | with_reducible exact Keeps.refl _ _ | with_reducible refine Keeps.alloc ?_ _ | with_reducible refine Keeps.drew ?_ | with_reducible refine Keeps.trans ?_ (by with_reducible assumption)))
    case c2 => exact HONE.out
    case c3 => simp [maxLen]; omega
    case c4 => omega
    case c5 => first | omega | (simp; done) | (simp; omega)
    intro g' cap' w6 hown6 hgr6 hat6 hlt6
    have hk6 := grown_keeps hgr6
    have k6' : Keeps (fun y => w.heap.size ≤ y) _ w6 := hk6.mono (fun y _ hy => by simp [Value.ownBlock] at hy; omega)
    have hf6 : Keeps (fun _ => False) w5 w6 := Keeps.fresh (((Keeps.refl (fun y => w5.heap.size ≤ y) w5).alloc _).trans' hk6 (fun _ _ h => h) (fun y _ hy => by simp [Value.ownBlock] at hy; omega))
    have H14 := h5.keeps hf6 (fun h => h) (fun h => h)
    have KF : Keeps (fun _ => False) w w6 := Keeps.fresh (by repeat (first | with_reducible exact Keeps.refl _ _ | with_reducible refine Keeps.alloc ?_ _ | with_reducible refine Keeps.drew ?_ | with_reducible refine Keeps.trans ?_ (by with_reducible assumption)))
    have hbb : w.heap.size ≤ b' := by omega
    have HRW : w6.ownsRow w.heap.size 23 1 (.slice (some ⟨g', 0, none⟩) n cap') n (slotsL (fun i => [L.sv i]) n) := by simpa using hown6
    refine hK.out _ _ ?_ (fun hHeld => ?_)
    · exact HPS.out _ (by repeat (first | with_reducible exact Keeps.refl _ _ | with_reducible refine Keeps.alloc ?_ _ | with_reducible refine Keeps.drew ?_ | with_reducible refine Keeps.trans ?_ (by with_reducible assumption)))
    clear hK K
    try dsimp only [Act.put, List.setIfInBounds_toArray, List.set_cons_zero, List.set_cons_succ]
    refine wpAnyT_ready (rs := [19]) (by kernel_rfl) (by simp) ?_
    refine AllReadyT.cons rfl rfl (fun K hK => ?_) AllReadyT.nil
    go_simp
    refine hK.out _ _ ?_ (fun hHeld => ?_)
    · exact HPS.out _ (by repeat (first | with_reducible exact Keeps.refl _ _ | with_reducible refine Keeps.alloc ?_ _ | with_reducible refine Keeps.drew ?_ | with_reducible refine Keeps.trans ?_ (by with_reducible assumption)))
    clear hK K
    try dsimp only [Act.put, List.setIfInBounds_toArray, List.set_cons_zero, List.set_cons_succ]
    refine wpAnyT_ready (rs := [20]) (by kernel_rfl) (by simp) ?_
    refine AllReadyT.cons rfl rfl (fun K hK => ?_) AllReadyT.nil
    go_simp
    refine hK.out _ _ ?_ (fun hHeld => ?_)
    · exact HPS.out _ (by repeat (first | with_reducible exact Keeps.refl _ _ | with_reducible refine Keeps.alloc ?_ _ | with_reducible refine Keeps.drew ?_ | with_reducible refine Keeps.trans ?_ (by with_reducible assumption)))
    clear hK K
    try dsimp only [Act.put, List.setIfInBounds_toArray, List.set_cons_zero, List.set_cons_succ]
    refine wpAnyT_ready (rs := [21]) (by kernel_rfl) (by simp) ?_
    refine AllReadyT.last rfl (by kernel_rfl) (fun K hK => ?_)
    go_simp
    refine hK.out _ _ ?_
    refine NoPanic.normal ?_
    go_wp2_with fail
    go_ret
    obtain ⟨z1, z2, L', z3, z4⟩ := cp_done HH.out HN.out HHN.out HE.out KF H14 hbb HRW
    exact ⟨_, L', rfl, z1, z2, z3, z4⟩
  · go_simp
    refine hK.out _ _ ?_ (fun hHeld => ?_)
    · exact HPS.out _ (by repeat (first | with_reducible exact Keeps.refl _ _ | with_reducible refine Keeps.alloc ?_ _ | with_reducible refine Keeps.drew ?_ | with_reducible refine Keeps.trans ?_ (by with_reducible assumption)))
    clear hK K
    try dsimp only [Act.put, List.setIfInBounds_toArray, List.set_cons_zero, List.set_cons_succ]
    refine wpAnyT_ready (rs := [8]) (by kernel_rfl) (by simp) ?_
    refine AllReadyT.cons rfl rfl (fun K hK => ?_) AllReadyT.nil
    go_simp
    go_at_call 61
    refine (HCP.out _ (by repeat (first | with_reducible exact Keeps.refl _ _ | with_reducible refine Keeps.alloc ?_ _ | with_reducible refine Keeps.drew ?_ | with_reducible refine Keeps.trans ?_ (by with_reducible assumption)))).mono ?_
    rintro e w5 ⟨b', r', rfl, k5, hb5, hr5, h5⟩
    have hs5 := k5.size
    simp only [World.size_alloc, World.size_drew] at hs5 hb5 hr5
    have k5' : Keeps (fun y => w.heap.size ≤ y) _ w5 := k5.up
    have q5 := block_keep (alloc_new (w := w.drew) (o := .cells #[] 23)) k5 (fun h => h)
    refine hK.out _ _ ?_ (fun hHeld => ?_)
    · exact HPS.out _ (by repeat (first | with_reducible exact Keeps.refl _ _ | with_reducible refine Keeps.alloc ?_ _ | with_reducible refine Keeps.drew ?_ | with_reducible refine Keeps.trans ?_ (by with_reducible assumption)))
    clear hK K
    try dsimp only [Act.put, List.setIfInBounds_toArray, List.set_cons_zero, List.set_cons_succ]
    refine wpAnyT_ready (rs := [14]) (by kernel_rfl) (by simp) ?_
    refine AllReadyT.cons rfl rfl (fun K hK => ?_) AllReadyT.nil
    refine step_append_lies _ rfl _ _ 80 rfl w.heap.size 23 ri (.slice none 0 0) 1 24 Tryz.underlying80 hi1 hi2 hi3 hi4 rfl (by decide) (.slice (some ⟨_, 0, none⟩) 0 0) 0 [] rfl (HOWN.out _ _ (by first | exact alloc_new | exact alloc_old alloc_new | exact alloc_new' (by simp) | assumption) (by first | omega | (simp; done) | (simp; omega))) ⟨L.sr, 0, none⟩ n cap (slotsL (fun i => [L.sv i]) n) rfl (by rw [slotsL_len (svL_len L)]) ?c1 ?c2 (by omega) ?c3 ?c4 ?c5 _ rfl ?_
    case c1 => exact HNEWS.out _ (by repeat (first | with_reducible exact Keeps.refl _ _ | with_reducible refine Keeps.alloc ?_ _ | with_reducible refine Keeps.drew ?_ | with_reducible refine Keeps.trans ?_ (by with_reducible assumption)))
    case c2 => exact HONE.out
    case c3 => simp [maxLen]; omega
    case c4 => omega
    case c5 => first | omega | (simp; done) | (simp; omega)
    intro g' cap' w6 hown6 hgr6 hat6 hlt6
    have hk6 := grown_keeps hgr6
    have k6' : Keeps (fun y => w.heap.size ≤ y) _ w6 := hk6.mono (fun y _ hy => by simp [Value.ownBlock] at hy; omega)
    have H14 := h5.keeps hk6 (fun h => by simp [Value.ownBlock] at h; omega) (fun h => by simp [Value.ownBlock] at h; omega)
    have KF : Keeps (fun _ => False) w w6 := Keeps.fresh (by repeat (first | with_reducible exact Keeps.refl _ _ | with_reducible refine Keeps.alloc ?_ _ | with_reducible refine Keeps.drew ?_ | with_reducible refine Keeps.trans ?_ (by with_reducible assumption)))
    have hbb : w.heap.size ≤ b' := by omega
    have HRW : w6.ownsRow w.heap.size 23 1 (.slice (some ⟨g', 0, none⟩) n cap') n (slotsL (fun i => [L.sv i]) n) := by simpa using hown6
    refine hK.out _ _ ?_ (fun hHeld => ?_)
    · exact HPS.out _ (by repeat (first | with_reducible exact Keeps.refl _ _ | with_reducible refine Keeps.alloc ?_ _ | with_reducible refine Keeps.drew ?_ | with_reducible refine Keeps.trans ?_ (by with_reducible assumption)))
    clear hK K
    try dsimp only [Act.put, List.setIfInBounds_toArray, List.set_cons_zero, List.set_cons_succ]
    refine wpAnyT_ready (rs := [19]) (by kernel_rfl) (by simp) ?_
    refine AllReadyT.cons rfl rfl (fun K hK => ?_) AllReadyT.nil
    go_simp
    refine hK.out _ _ ?_ (fun hHeld => ?_)
    · exact HPS.out _ (by repeat (first | with_reducible exact Keeps.refl _ _ | with_reducible refine Keeps.alloc ?_ _ | with_reducible refine Keeps.drew ?_ | with_reducible refine Keeps.trans ?_ (by with_reducible assumption)))
    clear hK K
    try dsimp only [Act.put, List.setIfInBounds_toArray, List.set_cons_zero, List.set_cons_succ]
    refine wpAnyT_ready (rs := [20]) (by kernel_rfl) (by simp) ?_
    refine AllReadyT.cons rfl rfl (fun K hK => ?_) AllReadyT.nil
    go_simp
    refine hK.out _ _ ?_ (fun hHeld => ?_)
    · exact HPS.out _ (by repeat (first | with_reducible exact Keeps.refl _ _ | with_reducible refine Keeps.alloc ?_ _ | with_reducible refine Keeps.drew ?_ | with_reducible refine Keeps.trans ?_ (by with_reducible assumption)))
    clear hK K
    try dsimp only [Act.put, List.setIfInBounds_toArray, List.set_cons_zero, List.set_cons_succ]
    refine wpAnyT_ready (rs := [21]) (by kernel_rfl) (by simp) ?_
    refine AllReadyT.last rfl (by kernel_rfl) (fun K hK => ?_)
    go_simp
    refine hK.out _ _ ?_
    refine NoPanic.normal ?_
    go_wp2_with fail
    go_ret
    obtain ⟨z1, z2, L', z3, z4⟩ := cp_done HH.out HN.out HHN.out HE.out KF H14 hbb HRW
    exact ⟨_, L', rfl, z1, z2, z3, z4⟩
end

end Go.Proofs.YtkpnmajocgcccaaGreat

namespace Go.Proofs.YtkpnmajocgcccaaGreat
open Go.RowKit
set_option linter.unusedVariables false
set_option linter.unusedSimpArgs false

section
variable {w w' : World} {x N : Nat} {L : L18} {A A' : Ar}
theorem stks_len {A : Ar} (hok : A.Ok) : ∀ k, k ≤ A.many → (A.stks k).length ≤ 32 * k
  | 0, _ => by simp [Ar.stks]
  | k + 1, h => by
    have ih := stks_len hok k (by omega)
    rw [stks_succ, List.length_append, rt_len]
    have := (hok.rt k (by omega)).1
    omega
set_option maxRecDepth 100000 in
set_option maxHeartbeats 2000000 in
theorem origins19 (h : R18 w x L A) :
    Calls Tryz.prog 66 #[.pointer (some ⟨x, 0, none⟩)] w fun e w' => ∃ v, e = .returned v ∧ Row w' w.heap.size v (srtd A.H.T (A.glL ++ A.stks A.many)) ∧ Keeps (fun _ => False) w w' := by
  have HH := hid (fun W (hk : Keeps (fun _ => False) w W) => h.k0 hk)
  have HE := hid (heap18 h)
  have hok := h.ok
  have hm4 := hok.m4
  obtain ⟨n, hn⟩ : ∃ n, A.many = n := ⟨_, rfl⟩
  have HSL := hid (fun k (hk : k ≤ n) => stks_len hok k (by rw [hn]; exact hk))
  have HN := hid hn
  have hgl := glL_len A
  rw [hn] at hm4
  clear h hok hn
  go_enter Tryz.func66, Tryz.ntmps66
  go_wp2_with fail
  refine HE.out.mono ?_
  rintro e w1 ⟨b3, r3, rfl, k1, _, _, h14⟩
  have K1 := hid k1; have H14 := hid h14
  have HG := hid (globals18 (HH.out _ k1))
  clear k1 h14
  go_wp2_with fail
  refine HG.out.mono ?_
  rintro e w2 ⟨v4, rfl, hr4, k2⟩
  obtain ⟨p4, c4, rfl⟩ := hr4.refs.slice
  have K2 := hid k2; have HR4 := hid hr4
  have HS := hid (sizes18 (HH.out _ (K1.out.trans k2)))
  clear k2 hr4
  go_wp2_with fail
  refine HS.out.mono ?_
  rintro e w3 ⟨rfl, k3⟩
  have K3 := hid (K2.out.trans k3)
  have HR5 := hid (HR4.out.keeps k3 (fun _ _ _ _ h => h))
  rw [HN.out]
  clear k3 HR4
  go_wp2_with fail
  go_loopw [4, 7] (fun s4 ix wr => ∃ (k : Nat) (p : Option Addr) (c : Nat), k ≤ n ∧ ix = .int .i64 k ∧ s4 = .slice p (A.glL ++ A.stks k).length c ∧ Hid (Row wr w1.heap.size (.slice p (A.glL ++ A.stks k).length c) (A.glL ++ A.stks k)) ∧ Hid (Keeps (fun _ => False) w1 wr)) (fun _ ix _ => n - (intOf ix).toNat)
  case atStart =>
    have e0 : A.glL ++ A.stks 0 = A.glL := by simp [Ar.stks]
    exact ⟨0, p4, c4, Nat.zero_le _, rfl, by rw [e0], by rw [e0]; exact HR5, K3⟩
  case round =>
    obtain ⟨k, p, c, hk, rfl, rfl, HR, HK⟩ := hrel
    have hk0 : (0 : Int) ≤ k := by omega
    by_cases hlt : k < n
    · have hlt' : (k : Int) < (n : Int) := by omega
      have HT := hid (stack18 k (HH.out _ (K1.out.trans HK.out)) (by rw [HN.out]; exact hlt))
      have hl1 := HSL.out k (by omega)
      have hl2 : (A.rt k).l.length ≤ 32 := by
        have := HSL.out (k + 1) (by omega)
        rw [stks_succ, List.length_append] at this
        have := ((HH.out _ (Keeps.refl _ _)).ok.rt k (by rw [HN.out]; exact hlt)).1
        rw [rt_len]; exact this
      have hll : (A.glL ++ A.stks k).length ≤ 200 := by rw [List.length_append]; omega
      have HNX := hid (show A.glL ++ A.stks (k + 1) = (A.glL ++ A.stks k) ++ (A.rt k).l by rw [stks_succ, List.append_assoc])
      obtain ⟨ls, hls⟩ : ∃ ls, A.glL ++ A.stks k = ls := ⟨_, rfl⟩
      obtain ⟨rl, hrl⟩ : ∃ rl, (A.rt k).l = rl := ⟨_, rfl⟩
      rw [hls] at HR hll HNX ⊢
      rw [hrl] at HT hl2 HNX
      clear hls hrl hl1
      go_wp2_with fail
      refine HT.out.mono ?_
      rintro e w5 ⟨v8, rfl, hr8, k5⟩
      obtain ⟨p8, c8, rfl⟩ := hr8.refs.slice
      have HR2 := hid (HR.out.keeps k5 (fun _ _ _ _ h => h))
      have HK2 := hid (HK.out.trans k5)
      have HR8 := hid hr8.refs
      have hsz := HK2.out.size
      clear k5 hr8 HR HK
      go_wp2_with (first
        | (at_builtin; refine wpList_append_refs _ rfl _ _ rfl w1.heap.size _ _ ls rl rfl rfl HR2.out HR8.out (by omega) (by omega) ?_; intro v6 w6 hr6 hk6 ho6; obtain ⟨p6, c6, rfl⟩ := hr6.refs.slice)
        | fail)
      have hlt5 := HR2.out.lt
      exact ⟨⟨k + 1, p6, c6, by omega, by go_num, by rw [HNX.out]; simp, by rw [HNX.out]; exact hid hr6, hid (HK2.out.trans' hk6 (fun _ _ h => h) (fun y hy hz => by have := (hlt5 y hz).1; omega))⟩, by simp [intOf]; omega⟩
    · obtain rfl : k = n := by omega
      have hlt' : ¬ (k : Int) < (k : Int) := by omega
      have hl1 := HSL.out k (by omega)
      have HSO := hid (sorted19 _ _ (H14.out.keeps HK.out (fun h => h) (fun h => h)) HR.out.refs (by rw [List.length_append]; omega))
      obtain ⟨ls, hls⟩ : ∃ ls, A.glL ++ A.stks k = ls := ⟨_, rfl⟩
      rw [hls] at HSO ⊢
      rw [hls] at HR
      have HLS := hid hls
      clear hls hl1
      go_wp2_with fail
      refine HSO.out.mono ?_
      rintro e w5 ⟨v9, rfl, hr9, k5⟩
      have HR9 := hid (hr9.mono (Nat.le_trans K1.out.size HK.out.size))
      have K5 := hid (K1.out.trans (HK.out.trans k5))
      clear hr9 k5
      go_wp2_with fail
      go_ret
      exact ⟨_, rfl, by rw [HN.out, HLS.out]; exact HR9.out, K5.out⟩
theorem orig_eq (A : Ar) : srt (explQ A.H (srtd A.H.T (A.glL ++ A.stks A.many))).keys = srt A.rq.keys :=
  srtq_congr (fun r hr => (mem_srtd.1 hr).2) (fun r => by rw [mem_srtd]; unfold Ar.orig; rw [mem_hres])
theorem srtd_len {H : Hp} (h2 : H.T.n ≤ 256) (l : List Rf) : (srtd H.T l).length ≤ 256 := by
  unfold srtd
  refine Nat.le_trans (List.length_filter_le _ _) ?_
  unfold Tb.tk
  rw [List.length_map]
  exact Nat.le_trans (Tb.inn_len _ _ _) h2
set_option maxRecDepth 100000 in
set_option maxHeartbeats 2000000 in
theorem all19 (h : R18 w x L A) :
    Calls Tryz.prog 18 #[.pointer (some ⟨x, 0, none⟩)] w fun e w' => ∃ v, e = .returned (.tuple #[v, .int .i64 0]) ∧ Row w' w.heap.size v (srt A.rq.keys) ∧ Keeps (fun _ => False) w w' := by
  have HH := hid (fun W (hk : Keeps (fun _ => False) w W) => h.k0 hk)
  have HCP := hid (copy18 h)
  have HEQ := hid (orig_eq A)
  have hn2 := h.ok.n2
  have HTH := hid (show ∀ r ∈ srtd A.H.T (A.glL ++ A.stks A.many), There A.H r from fun r hr => (mem_srtd.1 hr).2)
  have hlo := srtd_len hn2 (A.glL ++ A.stks A.many)
  have HOR := hid (fun W (hk : Keeps (fun _ => False) w W) => origins19 (h.k0 hk))
  obtain ⟨os, hos⟩ : ∃ os, srtd A.H.T (A.glL ++ A.stks A.many) = os := ⟨_, rfl⟩
  rw [hos] at HEQ HTH hlo HOR
  clear h hos
  go_enter Tryz.func18, Tryz.ntmps18
  go_wp2_with fail
  refine HCP.out.mono ?_
  rintro e w1 ⟨x', L', rfl, k1, _, _, _⟩
  have K1 := hid k1
  have HE := hid (heap18 (HH.out _ k1))
  clear k1
  go_wp2_with fail
  refine HE.out.mono ?_
  rintro e w2 ⟨b3, r3, rfl, k2, _, _, h14⟩
  have K2 := hid (K1.out.trans k2)
  have H14 := hid h14
  have HO := hid (HOR.out _ (K1.out.trans k2))
  clear k2 h14
  go_wp2_with fail
  refine HO.out.mono ?_
  rintro e w3 ⟨v5, rfl, hr5, k3⟩
  have K3 := hid (K2.out.trans k3)
  have HR := hid (reached19 v5 os (H14.out.keeps k3 (fun h => h) (fun h => h)) hr5.refs HTH.out (by omega))
  rw [HEQ.out] at HR
  clear k3 hr5
  go_wp2_with fail
  refine HR.out.mono ?_
  rintro e w4 ⟨v6, rfl, hr6, k4⟩
  have K4 := hid (K3.out.trans k4)
  have HR6 := hid (hr6.mono K3.out.size)
  clear k4 hr6
  go_wp2_with fail
  go_ret2
  exact ⟨_, rfl, HR6.out, K4.out⟩
theorem lost_eq (A : Ar) : A.H.T.tk.filter (fun r => !decide (r ∈ srt A.rq.keys)) = A.lostL := by
  unfold Ar.lostL
  congr 1
  funext r
  rw [decide_eq_decide.2 (srt_perm _).mem_iff]
set_option maxRecDepth 100000 in
set_option maxHeartbeats 2000000 in
theorem lost19 (h : R18 w x L A) :
    Calls Tryz.prog 20 #[.pointer (some ⟨x, 0, none⟩)] w fun e w' => ∃ v, e = .returned (.tuple #[v, .int .i64 0]) ∧ Row w' w.heap.size v A.lostL ∧ Keeps (fun _ => False) w w' := by
  have HH := hid (fun W (hk : Keeps (fun _ => False) w W) => h.k0 hk)
  have HAL := hid (all19 h)
  have HLE := hid (lost_eq A)
  have htk := tk_len14 h.heap
  have hql : (srt A.rq.keys).length ≤ 256 := by rw [(srt_perm _).length_eq]; exact Nat.le_trans (rq_len A) h.ok.n2
  have HA14 := hid (fun W b r (h : R14 W b r A.H) => all14 h)
  obtain ⟨rq, hrq⟩ : ∃ rq, srt A.rq.keys = rq := ⟨_, rfl⟩
  obtain ⟨tk, htke⟩ : ∃ tk, A.H.T.tk = tk := ⟨_, rfl⟩
  rw [hrq] at HAL HLE hql
  rw [htke] at HLE htk HA14
  obtain ⟨fs, hfs⟩ : ∃ fs : Rf → Bool, (fun r => !decide (r ∈ rq)) = fs := ⟨_, rfl⟩
  rw [hfs] at HLE
  have HF := hid (fun y => show (!decide (y ∈ rq)) = fs y by rw [← hfs])
  clear h hrq htke hfs
  go_enter Tryz.func20, Tryz.ntmps20
  go_wp2_with fail
  refine HAL.out.mono ?_
  rintro e w1 ⟨v4, rfl, hr4, k1⟩
  have K1 := hid k1
  have HR4 := hid hr4.refs
  have HE := hid (heap18 (HH.out _ k1))
  clear k1 hr4
  go_wp2_with fail
  refine HE.out.mono ?_
  rintro e w2 ⟨b3, r3, rfl, k2, _, _, h14⟩
  have K2 := hid (K1.out.trans k2)
  have HR42 := hid (HR4.out.keeps k2 (fun _ _ h => h))
  have HAA := hid (HA14.out _ _ _ h14)
  clear k2 h14
  go_wp2_with fail
  refine HAA.out.mono ?_
  rintro e w3 ⟨v7, rfl, hr7, k3⟩
  obtain ⟨p6, c6, rfl⟩ := hr7.refs.slice
  have K3 := hid (K2.out.trans k3)
  have HR43 := hid (HR42.out.keeps k3 (fun _ _ h => h))
  have HT := hid (fun W (hk : Keeps (fun _ => False) w3 W) => (hr7.refs.keeps hk (fun _ _ h => h)).cell.2)
  have HHA := hid (fun W (hk : Keeps (fun _ => False) w3 W) (y : Rf) => has19 v4 rq y W (HR43.out.keeps hk (fun _ _ h => h)) (by omega))
  clear k3 hr7
  go_wp2_with fail
  go_loopw [6, 8] (fun s5 ix wr => ∃ (k : Nat) (p : Option Addr) (c : Nat), k ≤ tk.length ∧ ix = .int .i64 k ∧ s5 = .slice p ((tk.take k).filter fs).length c ∧ Hid (Row wr w3.heap.size (.slice p ((tk.take k).filter fs).length c) ((tk.take k).filter fs)) ∧ Hid (Keeps (fun _ => False) w3 wr)) (fun _ ix _ => tk.length - (intOf ix).toNat)
  case atStart => exact ⟨0, none, 0, Nat.zero_le _, rfl, rfl, hid (Row.nil _ _), hid (Keeps.refl _ _)⟩
  case round =>
    obtain ⟨k, p, c, hk, rfl, rfl, HR, HK⟩ := hrel
    have hk0 : (0 : Int) ≤ k := by omega
    by_cases hlt : k < tk.length
    · have hlt' : (k : Int) < (tk.length : Int) := by omega
      obtain ⟨y, hy⟩ : ∃ y, tk[k]? = some y := ⟨_, List.getElem?_eq_getElem hlt⟩
      obtain ⟨g, rfl, hgl, c0, c1⟩ := HT.out wr HK.out k y hy
      have HY := hid hy
      have HHS := hid (HHA.out wr HK.out y)
      obtain ⟨B, hB⟩ : ∃ B, decide (y ∈ rq) = B := ⟨_, rfl⟩
      have hfy := HF.out y
      rw [hB] at HHS hfy
      have HN := hid (filter_take hy fs)
      clear hy hB
      go_wp2_with fail
      refine HHS.out.mono ?_
      rintro e w5 ⟨rfl, k5⟩
      have HK2 := hid (HK.out.trans k5)
      have HR2 := hid (HR.out.keeps k5 (fun _ _ _ _ h => h))
      obtain ⟨g2, eg, hgl2, c0', c1'⟩ := HT.out w5 HK2.out k y HY.out
      have eg' : g2 = g := by injection eg with eg; injection eg with eg; exact eg.symm
      rw [eg'] at hgl2 c0' c1'
      clear eg eg' k5 HR HK c0 c1
      have hsb := HK2.out.size
      have hll : ((tk.take k).filter fs).length ≤ 256 := Nat.le_trans (List.length_filter_le _ _) (by rw [List.length_take]; omega)
      rcases B with _ | _
      · have HN2 := hid (show (tk.take (k + 1)).filter fs = (tk.take k).filter fs ++ [y] by rw [HN.out, ← hfy]; rfl)
        have HVD := hid (HR2.out.keeps ((Keeps.refl (fun _ => False) w5).alloc (.cells #[.int .i64 y.s, .int .u32 y.g] 41)) (fun _ _ _ _ h => h))
        have HRO := hid (refs_one (x := y) (alloc_new (w := w5) (o := .cells #[.int .i64 y.s, .int .u32 y.g] 41)))
        have HKA := hid (HK2.out.alloc (.cells #[.int .i64 y.s, .int .u32 y.g] 41))
        obtain ⟨ls, hls⟩ : ∃ ls, (tk.take k).filter fs = ls := ⟨_, rfl⟩
        rw [hls] at HN2 HVD hll ⊢
        clear hfy HR2 hls HN
        go_wp2_with (first
          | (at_builtin; refine wpList_append_refs _ rfl _ _ rfl w3.heap.size _ _ ls [y] rfl rfl HVD.out HRO.out (by rw [List.length_singleton]; omega) (by rw [World.size_alloc]; omega) ?_; intro v5 w6 hr5 hk5 ho5; obtain ⟨p5, c5, rfl⟩ := hr5.refs.slice)
          | fail)
        have hlt5 := HVD.out.lt
        exact ⟨⟨k + 1, p5, c5, by omega, by go_num, by rw [HN2.out]; simp, by rw [HN2.out]; exact hid hr5, hid (HKA.out.trans' hk5 (fun _ _ h => h) (fun y hy hz => by have := (hlt5 y hz).1; omega))⟩, by simp [intOf]; omega⟩
      · have HN2 := hid (show (tk.take (k + 1)).filter fs = (tk.take k).filter fs by rw [HN.out, ← hfy]; simp)
        clear hfy
        go_wp2_with fail
        exact ⟨⟨k + 1, p, c, by omega, by go_num, by rw [HN2.out], by rw [HN2.out]; exact HR2, HK2⟩, by simp [intOf]; omega⟩
    · obtain rfl : k = tk.length := by omega
      have hlt' : ¬ (tk.length : Int) < (tk.length : Int) := by omega
      have HR2 := hid (HR.out.mono K3.out.size)
      rw [List.take_length, HLE.out] at HR2
      have HK2 := hid (K3.out.trans HK.out)
      have e1 : (tk.filter fs) = A.lostL := HLE.out
      rw [List.take_length, e1]
      clear e1
      go_wp2_with fail
      go_ret2
      exact ⟨_, rfl, HR2.out, HK2.out⟩
end

end Go.Proofs.YtkpnmajocgcccaaGreat

namespace Go.Proofs.YtkpnmajocgcccaaGreat
open Go.RowKit
set_option linter.unusedVariables false
set_option linter.unusedSimpArgs false

section
variable {w w' : World} {x N : Nat} {L : L18} {A A' : Ar}
set_option maxRecDepth 100000 in
set_option maxHeartbeats 2000000 in
theorem is19 (r : Rf) (h : R18 w x L A) :
    Calls Tryz.prog 23 #[.pointer (some ⟨x, 0, none⟩), .agg #[.int .i64 r.s, .int .u32 r.g]] w fun e w' => e = .returned (.tuple #[.bool (decide (r ∈ A.rq.keys)), .int .i64 (ckV A.H.T r.s r.g)]) ∧ Keeps (fun _ => False) w w' := by
  have HH := hid (fun W (hk : Keeps (fun _ => False) w W) => h.k0 hk)
  have HAL := hid (fun W (hk : Keeps (fun _ => False) w W) => all19 (h.k0 hk))
  have hql : (srt A.rq.keys).length ≤ 256 := by rw [(srt_perm _).length_eq]; exact Nat.le_trans (rq_len A) h.ok.n2
  have hme : decide (r ∈ A.rq.keys) = decide (r ∈ srt A.rq.keys) := decide_eq_decide.2 (srt_perm _).mem_iff.symm
  have hno : ckV A.H.T r.s r.g ≠ 0 → decide (r ∈ srt A.rq.keys) = false := fun hc => by
    rw [decide_eq_false_iff_not, (srt_perm _).mem_iff]
    exact fun hm => hc (rq_there hm)
  have HNM := hid (fun W b' r' (h : R14 W b' r' A.H) => name19 r h)
  rw [hme]
  obtain ⟨rq, hrq⟩ : ∃ rq, srt A.rq.keys = rq := ⟨_, rfl⟩
  obtain ⟨ec, hec⟩ : ∃ ec, ckV A.H.T r.s r.g = ec := ⟨_, rfl⟩
  rw [hrq] at HAL hql hno
  rw [hec] at HNM hno
  rw [hrq, hec]
  obtain ⟨B, hB⟩ : ∃ B, decide (r ∈ rq) = B := ⟨_, rfl⟩
  rw [hB] at hno ⊢
  have HHA := hid (fun W v (hv : Refs W v rq) => has19 v rq r W hv (by omega))
  rw [hB] at HHA
  clear h hme hrq hec hB
  go_enter Tryz.func23, Tryz.ntmps23
  go_wp2_with fail
  refine (HAL.out _ ((Keeps.refl _ _).alloc _)).mono ?_
  rintro e w1 ⟨v6, rfl, hr6, k1⟩
  have hwl := k1.size
  rw [World.size_alloc] at hwl
  have HQ := hid (block_keep (alloc_new (w := w) (o := .cells #[.int .i64 r.s, .int .u32 r.g] 41)) k1 (fun h => h))
  have K1 := hid (((Keeps.refl (fun _ => False) w).alloc (.cells #[.int .i64 r.s, .int .u32 r.g] 41)).trans k1)
  have HR6 := hid hr6.refs
  have HPS := hid (fun W (hk : Keeps (fun _ => False) w1 W) => show W.cell? ⟨w.heap.size, 0, none⟩ = some (.int .i64 r.s) ∧ W.cell? ⟨w.heap.size, 1, none⟩ = some (.int .u32 r.g) from by
    have q := block_keep HQ.out hk (fun h => h)
    exact ⟨cell_at q rfl, cell_at q rfl⟩)
  have HPP := hid (fun W (hk : Keeps (fun _ => False) w1 W) => heap18 (HH.out W (K1.out.trans hk)))
  clear k1 hr6
  go_upto_region 4 with (fail)
  refine wp_region_last 4 (fun W => W.cell? ⟨w.heap.size, 0, none⟩ = some (.int .i64 r.s) ∧ W.cell? ⟨w.heap.size, 1, none⟩ = some (.int .u32 r.g)) (by kernel_rfl) (HPS.out _ (Keeps.refl _ _).drew) (fun hS => ?_)
  refine wpAnyT_take (i := 0) (v := ?_) rfl (by kernel_rfl) (by kernel_rfl) (by kernel_rfl) (by kernel_rfl) (fun _ _ _ h => h) (Or.inl ⟨by rfl, ?_⟩) (by assumption) ?_
  rotate_left
  · (intro w hSw; (try dsimp only at hSw); simp only [List.getElem_toArray, List.getElem_cons_zero, List.getElem_cons_succ]; go_simp; (first | done | with_reducible rfl))
  simp only [List.getElem_toArray, List.getElem_cons_zero, List.getElem_cons_succ, Act.put, List.setIfInBounds_toArray, List.set_cons_zero, List.set_cons_succ]
  refine wpAnyT_take (i := 2) (v := ?_) rfl (by kernel_rfl) (by kernel_rfl) (by kernel_rfl) (by kernel_rfl) (fun _ _ _ h => h) (Or.inl ⟨by rfl, ?_⟩) (by assumption) ?_
  rotate_left
  · (intro w hSw; (try dsimp only at hSw); simp only [List.getElem_toArray, List.getElem_cons_zero, List.getElem_cons_succ]; go_simp; (first | done | with_reducible rfl))
  simp only [List.getElem_toArray, List.getElem_cons_zero, List.getElem_cons_succ, Act.put, List.setIfInBounds_toArray, List.set_cons_zero, List.set_cons_succ]
  refine wpAnyT_ready (rs := [1]) (by kernel_rfl) (by simp) ?_
  refine AllReadyT.cons rfl rfl (fun K hK => ?_) AllReadyT.nil
  go_simp
  go_at_call 14
  refine (HPP.out _ ((Keeps.refl _ _).drew)).mono ?_
  rintro e w2 ⟨b2, r2, rfl, k2, _, _, h14⟩
  have k2d := (Keeps.refl (fun _ => False) w1).drew.trans k2
  refine hK.out _ _ ?_ (fun hHeld => ?_)
  · exact HPS.out _ (by repeat (first | with_reducible exact Keeps.refl _ _ | with_reducible refine Keeps.alloc ?_ _ | with_reducible refine Keeps.drew ?_ | with_reducible refine Keeps.trans ?_ (by with_reducible assumption)))
  clear hK K
  try dsimp only [Act.put, List.setIfInBounds_toArray, List.set_cons_zero, List.set_cons_succ]
  refine wpAnyT_ready (rs := [3]) (by kernel_rfl) (by simp) ?_
  refine AllReadyT.cons rfl rfl (fun K hK => ?_) AllReadyT.nil
  go_simp
  go_at_call 71
  refine (HNM.out _ _ _ h14).mono ?_
  rintro e w3 ⟨rfl, k3⟩
  have k3d := k2d.trans k3
  refine hK.out _ _ ?_ (fun hHeld => ?_)
  · exact HPS.out _ (by repeat (first | with_reducible exact Keeps.refl _ _ | with_reducible refine Keeps.alloc ?_ _ | with_reducible refine Keeps.drew ?_ | with_reducible refine Keeps.trans ?_ (by with_reducible assumption)))
  clear hK K
  try dsimp only [Act.put, List.setIfInBounds_toArray, List.set_cons_zero, List.set_cons_succ]
  refine wpAnyT_ready (rs := [4]) (by kernel_rfl) (by simp) ?_
  refine AllReadyT.last rfl (by kernel_rfl) (fun K hK => ?_)
  go_simp
  refine hK.out _ _ ?_
  refine NoPanic.normal ?_
  have K3 := hid k3d
  obtain ⟨c0, c1⟩ := HPS.out _ k3d
  have hbl : w.heap.size < w3.heap.size := Nat.lt_of_lt_of_le (by omega) k3d.size
  clear k2 k3 k2d k3d h14 hS
  by_cases he : ec = 0
  · subst he
    have HHS := hid (HHA.out w3 v6 (HR6.out.keeps K3.out (fun _ _ h => h)))
    go_wp2_with fail
    refine HHS.out.mono ?_
    rintro e w4 ⟨rfl, k4⟩
    have K4 := hid (K1.out.trans (K3.out.trans k4))
    clear k4
    go_wp2_with fail
    refine bodyPost_ret_by (v := .tuple #[.bool B, .int .i64 0]) (by simp [results, Tryz.results23, go_sem, *]) rfl ⟨rfl, K4.out⟩
  · have hB := hno he
    subst hB
    have hne : (ec != 0) = true := by simpa using he
    clear he
    go_wp2_with fail
    refine bodyPost_ret_by (v := .tuple #[.bool false, .int .i64 ec]) (by simp [results, Tryz.results23, go_sem, *]) rfl ⟨rfl, K1.out.trans K3.out⟩
end

end Go.Proofs.YtkpnmajocgcccaaGreat
