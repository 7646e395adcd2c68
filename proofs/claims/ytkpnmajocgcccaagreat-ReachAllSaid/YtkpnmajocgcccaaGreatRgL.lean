/- estrayref19: nearest. -/
import Derived.Test.YtkpnmajocgcccaaGreatRgK
namespace Go.Proofs.YtkpnmajocgcccaaGreat
open Go.RowKit
set_option linter.unusedVariables false
set_option linter.unusedSimpArgs false

theorem Ints.cell {w : World} {a : Option Addr} {n c : Nat} {l : List Int} (h : Ints w (.slice a n c) l) : n = l.length ∧ ∀ (j : Nat) (r : Int), l[j]? = some r → ∃ g, a = some ⟨g, 0, none⟩ ∧ g < w.heap.size ∧ w.cell? ⟨g, j, none⟩ = some (.int .i64 r) := by
  rcases h with ⟨e, rfl⟩ | ⟨g, cap, cur, e, hg, hc⟩
  · injection e with e1 e2 e3
    exact ⟨e2, fun j r hj => by cases hj⟩
  · injection e with e1 e2 e3
    exact ⟨e2, fun j r hj => ⟨g, e1, lt_block hg, cell_at hg (hc j r hj)⟩⟩
theorem Ints.slice {w : World} {v : Value} {l : List Int} (h : Ints w v l) : ∃ a c, v = .slice a l.length c := by
  rcases h with ⟨rfl, rfl⟩ | ⟨g, cap, cur, rfl, hg, hc⟩
  · exact ⟨_, _, rfl⟩
  · exact ⟨_, _, rfl⟩
def Be.ns (q : Be) : List Rf := q.map (·.1)
def Be.ds (q : Be) : List Int := q.map (fun y => (y.2 : Int))
theorem Be.ns_len (q : Be) : q.ns.length = q.length := List.length_map _
theorem Be.ds_len (q : Be) : q.ds.length = q.length := List.length_map _
theorem Be.ns_at {q : Be} {j : Nat} {y : Rf} {d : Nat} (h : q[j]? = some (y, d)) : q.ns[j]? = some y := by unfold Be.ns; rw [List.getElem?_map, h]; rfl
theorem Be.ds_at {q : Be} {j : Nat} {y : Rf} {d : Nat} (h : q[j]? = some (y, d)) : q.ds[j]? = some (d : Int) := by unfold Be.ds; rw [List.getElem?_map, h]; rfl
section
variable {w w' : World}
set_option maxRecDepth 100000 in
set_option maxHeartbeats 4000000 in
theorem nearest19 (v0 v1 v2 : Value) (l : List Rf) (q : Be) (want : Int) (w : World) (h0 : Refs w v0 l) (h1 : Refs w v1 q.ns) (h2 : Ints w v2 q.ds) (hl : l.length ≤ 5000) (hq : q.length ≤ 5000) (hq0 : 0 < q.length) :
    Calls Tryz.prog 75 #[v0, v1, v2, .int .i64 want] w fun e w' => e = .returned (.int .i64 (nrL q want l)) ∧ Keeps (fun _ => False) w w' := by
  obtain ⟨p0, c0, rfl⟩ := h0.slice
  obtain ⟨p1, c1, rfl⟩ := h1.slice
  obtain ⟨p2, c2, rfl⟩ := h2.slice
  have H0 := hid (fun W (hk : Keeps (fun _ => False) w W) => (h0.keeps hk (fun _ _ h => h)).cell.2)
  have H1 := hid (fun W (hk : Keeps (fun _ => False) w W) => (h1.keeps hk (fun _ _ h => h)).cell.2)
  have H2 := hid (fun W (hk : Keeps (fun _ => False) w W) => (h2.keeps hk (fun _ _ h => h)).cell.2)
  rw [Be.ns_len, Be.ds_len]
  obtain ⟨n, hn⟩ : ∃ n, q.length = n := ⟨_, rfl⟩
  obtain ⟨m, hm⟩ : ∃ m, l.length = m := ⟨_, rfl⟩
  have HN := hid hn; have HM := hid hm
  rw [hn] at hq hq0
  rw [hm] at hl
  rw [hn, hm]
  clear h0 h1 h2 hn hm
  go_enter Tryz.func75, Tryz.ntmps75
  go_wp2_with fail
  go_loopw [9, 10] (fun s9 ix wr => ∃ (k : Nat), k ≤ m ∧ ix = .int .i64 k ∧ s9 = .int .i64 (nrL q want (l.take k)) ∧ Hid (Keeps (fun _ => False) w wr)) (fun _ ix _ => m - (intOf ix).toNat)
  case atStart => exact ⟨0, Nat.zero_le _, rfl, rfl, hid (Keeps.refl _ _)⟩
  case round =>
    obtain ⟨k, hk, rfl, rfl, HK⟩ := hrel
    have hk0 : (0 : Int) ≤ k := by omega
    by_cases hlt : k < m
    · have hlt' : (k : Int) < (m : Int) := by omega
      obtain ⟨x, hx⟩ : ∃ x, l[k]? = some x := ⟨_, List.getElem?_eq_getElem (by rw [HM.out]; exact hlt)⟩
      have HX := hid hx
      have HSN := hid (show nrL q want (l.take (k + 1)) = nrK q want x (nrL q want (l.take k)) n by rw [take_snoc hx, nrL_snoc, HN.out])
      have hr0 := nrL_rng q want (by rw [HN.out]; exact hq0) (l.take k)
      obtain ⟨b0, hb0⟩ : ∃ b0, nrL q want (l.take k) = b0 := ⟨_, rfl⟩
      rw [hb0] at HSN hr0 ⊢
      have HRG := hid (fun j (hj : j ≤ n) => nrK_rng (q := q) (want := want) (x := x) hr0.1 hr0.2 j (by rw [HN.out]; exact hj))
      clear hx hb0 hr0
      go_wp2_with fail
      go_loopw [9, 11] (fun s9 ix wr => ∃ (j : Nat), j ≤ n ∧ ix = .int .i64 j ∧ s9 = .int .i64 (nrK q want x b0 j) ∧ Hid (Keeps (fun _ => False) w wr)) (fun _ ix _ => n - (intOf ix).toNat)
      case atStart => exact ⟨0, Nat.zero_le _, rfl, rfl, HK⟩
      case round =>
        obtain ⟨j, hj, rfl, rfl, HKi⟩ := hrel
        have hj0 : (0 : Int) ≤ j := by omega
        by_cases hlj : j < n
        · have hlj' : (j : Int) < (n : Int) := by omega
          obtain ⟨⟨y, d⟩, hy⟩ : ∃ y, q[j]? = some y := ⟨_, List.getElem?_eq_getElem (by rw [HN.out]; exact hlj)⟩
          obtain ⟨g0, rfl, l0, a0, a1⟩ := H0.out wr HKi.out k x HX.out
          obtain ⟨g1, rfl, l1, e0, e1⟩ := H1.out wr HKi.out j y (Be.ns_at hy)
          obtain ⟨g2, rfl, l2, d0⟩ := H2.out wr HKi.out j d (Be.ds_at hy)
          have hrg := HRG.out j hj
          rw [HN.out] at hrg
          have HNR := hid (show nrK q want x b0 (j + 1) = if y = x ∧ okW want d ∧ (nrK q want x b0 j < 0 ∨ d < farB q (nrK q want x b0 j)) then (j : Int) else nrK q want x b0 j by rw [nrK_succ]; unfold nr1; rw [hy])
          obtain ⟨b, hb⟩ : ∃ b, nrK q want x b0 j = b := ⟨_, rfl⟩
          rw [hb] at hrg HNR ⊢
          have hql := fun W => eql_ref W y.s y.g x.s x.g
          simp only [Rf.eq_iff] at hql
          have key : ∃ (ii f : Nat) (r : Int), wr.cell? ⟨g2, ii, none⟩ = some (.int .i64 f) ∧ Hid (nrK q want x b0 (j + 1) = r) ∧
              ((decide (y = x) = false ∧ r = b) ∨ (decide (y = x) = true ∧ (want == -1) = true ∧ b < 0 ∧ r = j)
              ∨ (decide (y = x) = true ∧ (want == -1) = true ∧ b = ii ∧ (0 : Int) ≤ ii ∧ (ii : Int) < n ∧ ¬ (ii : Int) < 0 ∧ (d : Int) < f ∧ r = j)
              ∨ (decide (y = x) = true ∧ (want == -1) = true ∧ b = ii ∧ (0 : Int) ≤ ii ∧ (ii : Int) < n ∧ ¬ (ii : Int) < 0 ∧ ¬ (d : Int) < f ∧ r = ii)
              ∨ (decide (y = x) = true ∧ (want == -1) = false ∧ want = d ∧ b < 0 ∧ r = j)
              ∨ (decide (y = x) = true ∧ (want == -1) = false ∧ want = d ∧ b = ii ∧ (0 : Int) ≤ ii ∧ (ii : Int) < n ∧ ¬ (ii : Int) < 0 ∧ (d : Int) < f ∧ r = j)
              ∨ (decide (y = x) = true ∧ (want == -1) = false ∧ want = d ∧ b = ii ∧ (0 : Int) ≤ ii ∧ (ii : Int) < n ∧ ¬ (ii : Int) < 0 ∧ ¬ (d : Int) < f ∧ r = ii)
              ∨ (decide (y = x) = true ∧ (want == -1) = false ∧ ((d : Int) == want) = false ∧ r = b)) := by
            have hN := HNR.out
            by_cases h1 : y = x
            · by_cases hw : okW want d
              · by_cases h3 : b < 0
                · rw [if_pos ⟨h1, hw, .inl h3⟩] at hN
                  refine ⟨j, d, _, d0, hid hN, ?_⟩
                  by_cases h2 : want = -1
                  · exact .inr (.inl ⟨decide_eq_true h1, by simpa using h2, h3, rfl⟩)
                  · have hwd : want = d := by rcases hw with h | h <;> omega
                    exact .inr (.inr (.inr (.inr (.inl ⟨decide_eq_true h1, by simpa using h2, hwd, h3, rfl⟩))))
                · obtain ⟨i, rfl⟩ : ∃ i : Nat, b = i := ⟨b.toNat, by omega⟩
                  obtain ⟨⟨z, f⟩, hz⟩ : ∃ z, q[i]? = some z := ⟨_, List.getElem?_eq_getElem (by rw [HN.out]; omega)⟩
                  obtain ⟨g3, eg, _, d1⟩ := H2.out wr HKi.out i f (Be.ds_at hz)
                  have eg' : g3 = g2 := by injection eg with eg; injection eg with eg; exact eg.symm
                  rw [eg'] at d1
                  have hfb : farB q (i : Int) = f := by unfold farB; rw [Int.toNat_natCast, hz]
                  rw [hfb] at hN
                  by_cases h4 : d < f
                  · rw [if_pos ⟨h1, hw, .inr h4⟩] at hN
                    refine ⟨i, f, _, d1, hid hN, ?_⟩
                    by_cases h2 : want = -1
                    · exact .inr (.inr (.inl ⟨decide_eq_true h1, by simpa using h2, rfl, by omega, by omega, h3, by omega, rfl⟩))
                    · have hwd : want = d := by rcases hw with h | h <;> omega
                      exact .inr (.inr (.inr (.inr (.inr (.inl ⟨decide_eq_true h1, by simpa using h2, hwd, rfl, by omega, by omega, h3, by omega, rfl⟩)))))
                  · rw [if_neg (fun h => h.2.2.elim h3 h4)] at hN
                    refine ⟨i, f, _, d1, hid hN, ?_⟩
                    by_cases h2 : want = -1
                    · exact .inr (.inr (.inr (.inl ⟨decide_eq_true h1, by simpa using h2, rfl, by omega, by omega, h3, by omega, rfl⟩)))
                    · have hwd : want = d := by rcases hw with h | h <;> omega
                      exact .inr (.inr (.inr (.inr (.inr (.inr (.inl ⟨decide_eq_true h1, by simpa using h2, hwd, rfl, by omega, by omega, h3, by omega, rfl⟩))))))
              · rw [if_neg (fun h => hw h.2.1)] at hN
                have h2 : ¬ want = -1 := fun h => hw (.inl h)
                have h5 : ¬ (d : Int) = want := fun h => hw (.inr h)
                exact ⟨j, d, _, d0, hid hN, .inr (.inr (.inr (.inr (.inr (.inr (.inr ⟨decide_eq_true h1, by simpa using h2, by simpa using h5, rfl⟩))))))⟩
            · rw [if_neg (fun h => h1 h.1)] at hN
              exact ⟨j, d, _, d0, hid hN, .inl ⟨decide_eq_false h1, rfl⟩⟩
          obtain ⟨ii, f, r, d1, HNX, hcs⟩ := key
          clear hy hb HNR
          rcases hcs with ⟨hE, rfl⟩ | ⟨hE, hw, h3, rfl⟩ | ⟨hE, hw, rfl, i0, i1, i2, h4, rfl⟩ | ⟨hE, hw, rfl, i0, i1, i2, h4, rfl⟩ | ⟨hE, hw, rfl, h3, rfl⟩ | ⟨hE, hw, rfl, rfl, i0, i1, i2, h4, rfl⟩ | ⟨hE, hw, rfl, rfl, i0, i1, i2, h4, rfl⟩ | ⟨hE, hw, hdw, rfl⟩
          all_goals
            rw [hE] at hql
            clear hE
          all_goals
            go_upto_region 8 with (fail)
            refine wp_region_last 35 (fun W => W.cell? ⟨g0, k * 2, none⟩ = some (.int .i64 x.s) ∧ W.cell? ⟨g0, k * 2 + 1, none⟩ = some (.int .u32 x.g) ∧ W.cell? ⟨g1, j * 2, none⟩ = some (.int .i64 y.s) ∧ W.cell? ⟨g1, j * 2 + 1, none⟩ = some (.int .u32 y.g) ∧ W.cell? ⟨g2, j, none⟩ = some (.int .i64 d) ∧ W.cell? ⟨g2, ii, none⟩ = some (.int .i64 f)) (by kernel_rfl) ⟨a0, a1, e0, e1, d0, d1⟩ (fun hS => ?_)
            refine wpAnyT_take (i := 0) (v := ?_) rfl (by kernel_rfl) (by kernel_rfl) (by kernel_rfl) (by kernel_rfl) (fun _ _ _ h => h) (Or.inl ⟨by rfl, ?_⟩) (by assumption) ?_; rotate_left; focus (intro w hSw; (try dsimp only at hSw); simp only [List.getElem_toArray, List.getElem_cons_zero, List.getElem_cons_succ]; go_simp; (first | done | with_reducible rfl))
            simp only [List.getElem_toArray, List.getElem_cons_zero, List.getElem_cons_succ, Act.put, List.setIfInBounds_toArray, List.set_cons_zero, List.set_cons_succ]
            refine wpAnyT_take (i := 1) (v := ?_) rfl (by kernel_rfl) (by kernel_rfl) (by kernel_rfl) (by kernel_rfl) (fun _ _ _ h => h) (Or.inl ⟨by rfl, ?_⟩) (by assumption) ?_; rotate_left; focus (intro w hSw; (try dsimp only at hSw); simp only [List.getElem_toArray, List.getElem_cons_zero, List.getElem_cons_succ]; go_simp; (first | done | with_reducible rfl))
            simp only [List.getElem_toArray, List.getElem_cons_zero, List.getElem_cons_succ, Act.put, List.setIfInBounds_toArray, List.set_cons_zero, List.set_cons_succ]
            refine wpAnyT_take (i := 2) (v := ?_) rfl (by kernel_rfl) (by kernel_rfl) (by kernel_rfl) (by kernel_rfl) (fun _ _ _ h => h) (Or.inl ⟨by rfl, ?_⟩) (by assumption) ?_; rotate_left; focus (intro w hSw; (try dsimp only at hSw); simp only [List.getElem_toArray, List.getElem_cons_zero, List.getElem_cons_succ]; go_simp; (first | done | with_reducible rfl))
            simp only [List.getElem_toArray, List.getElem_cons_zero, List.getElem_cons_succ, Act.put, List.setIfInBounds_toArray, List.set_cons_zero, List.set_cons_succ]
            refine wpAnyT_take (i := 3) (v := ?_) rfl (by kernel_rfl) (by kernel_rfl) (by kernel_rfl) (by kernel_rfl) (fun _ _ _ h => h) (Or.inl ⟨by rfl, ?_⟩) (by assumption) ?_; rotate_left; focus (intro w hSw; (try dsimp only at hSw); simp only [List.getElem_toArray, List.getElem_cons_zero, List.getElem_cons_succ]; go_simp; (first | done | with_reducible rfl))
            simp only [List.getElem_toArray, List.getElem_cons_zero, List.getElem_cons_succ, Act.put, List.setIfInBounds_toArray, List.set_cons_zero, List.set_cons_succ]
            refine wpAnyT_take (i := 4) (v := ?_) rfl (by kernel_rfl) (by kernel_rfl) (by kernel_rfl) (by kernel_rfl) (fun _ _ _ h => h) (Or.inl ⟨by rfl, ?_⟩) (by assumption) ?_; rotate_left; focus (intro w hSw; (try dsimp only at hSw); simp only [List.getElem_toArray, List.getElem_cons_zero, List.getElem_cons_succ]; go_simp; (first | done | with_reducible rfl))
            simp only [List.getElem_toArray, List.getElem_cons_zero, List.getElem_cons_succ, Act.put, List.setIfInBounds_toArray, List.set_cons_zero, List.set_cons_succ]
            refine wpAnyT_take (i := 5) (v := ?_) rfl (by kernel_rfl) (by kernel_rfl) (by kernel_rfl) (by kernel_rfl) (fun _ _ _ h => h) (Or.inl ⟨by rfl, ?_⟩) (by assumption) ?_; rotate_left; focus (intro w hSw; (try dsimp only at hSw); simp only [List.getElem_toArray, List.getElem_cons_zero, List.getElem_cons_succ]; go_simp; (first | done | with_reducible rfl))
            simp only [List.getElem_toArray, List.getElem_cons_zero, List.getElem_cons_succ, Act.put, List.setIfInBounds_toArray, List.set_cons_zero, List.set_cons_succ]
            refine wpAnyT_take (i := 6) (v := ?_) rfl (by kernel_rfl) (by kernel_rfl) (by kernel_rfl) (by kernel_rfl) (fun _ _ _ h => h) (Or.inl ⟨by rfl, ?_⟩) (by assumption) ?_; rotate_left; focus (intro w hSw; (try dsimp only at hSw); simp only [List.getElem_toArray, List.getElem_cons_zero, List.getElem_cons_succ]; go_simp; (first | done | with_reducible rfl))
            simp only [List.getElem_toArray, List.getElem_cons_zero, List.getElem_cons_succ, Act.put, List.setIfInBounds_toArray, List.set_cons_zero, List.set_cons_succ]
            refine wpAnyT_take (i := 7) (v := ?_) rfl (by kernel_rfl) (by kernel_rfl) (by kernel_rfl) (by kernel_rfl) (fun _ _ _ h => h) (Or.inl ⟨by rfl, ?_⟩) (by assumption) ?_; rotate_left; focus (intro w hSw; (try dsimp only at hSw); simp only [List.getElem_toArray, List.getElem_cons_zero, List.getElem_cons_succ]; go_simp; (first | done | with_reducible rfl))
            simp only [List.getElem_toArray, List.getElem_cons_zero, List.getElem_cons_succ, Act.put, List.setIfInBounds_toArray, List.set_cons_zero, List.set_cons_succ]
            refine wpAnyT_take (i := 8) (v := ?_) rfl (by kernel_rfl) (by kernel_rfl) (by kernel_rfl) (by kernel_rfl) (fun _ _ _ h => h) (Or.inl ⟨by rfl, ?_⟩) (by assumption) ?_; rotate_left; focus (intro w hSw; (try dsimp only at hSw); simp only [List.getElem_toArray, List.getElem_cons_zero, List.getElem_cons_succ]; go_simp; (first | done | with_reducible rfl))
            simp only [List.getElem_toArray, List.getElem_cons_zero, List.getElem_cons_succ, Act.put, List.setIfInBounds_toArray, List.set_cons_zero, List.set_cons_succ]
            refine wpAnyT_take (i := 9) (v := ?_) rfl (by kernel_rfl) (by kernel_rfl) (by kernel_rfl) (by kernel_rfl) (fun _ _ _ h => h) (Or.inl ⟨by rfl, ?_⟩) (by assumption) ?_; rotate_left; focus (intro w hSw; (try dsimp only at hSw); simp only [List.getElem_toArray, List.getElem_cons_zero, List.getElem_cons_succ]; go_simp; (first | done | with_reducible rfl))
            simp only [List.getElem_toArray, List.getElem_cons_zero, List.getElem_cons_succ, Act.put, List.setIfInBounds_toArray, List.set_cons_zero, List.set_cons_succ]
            first
              | refine wpAnyT_take (i := 10) (v := undef) rfl (by kernel_rfl) (by kernel_rfl) (by kernel_rfl) (by kernel_rfl) (fun _ _ _ h => h) (Or.inr ⟨by rfl, rfl⟩) (by assumption) ?_
              | (refine wpAnyT_take (i := 10) (v := ?_) rfl (by kernel_rfl) (by kernel_rfl) (by kernel_rfl) (by kernel_rfl) (fun _ _ _ h => h) (Or.inl ⟨by rfl, ?_⟩) (by assumption) ?_; rotate_left; focus (intro w hSw; (try dsimp only at hSw); simp only [List.getElem_toArray, List.getElem_cons_zero, List.getElem_cons_succ]; go_simp; (first | done | with_reducible rfl)))
            simp only [List.getElem_toArray, List.getElem_cons_zero, List.getElem_cons_succ, Act.put, List.setIfInBounds_toArray, List.set_cons_zero, List.set_cons_succ]
            first
              | refine wpAnyT_take (i := 11) (v := undef) rfl (by kernel_rfl) (by kernel_rfl) (by kernel_rfl) (by kernel_rfl) (fun _ _ _ h => h) (Or.inr ⟨by rfl, rfl⟩) (by assumption) ?_
              | (refine wpAnyT_take (i := 11) (v := ?_) rfl (by kernel_rfl) (by kernel_rfl) (by kernel_rfl) (by kernel_rfl) (fun _ _ _ h => h) (Or.inl ⟨by rfl, ?_⟩) (by assumption) ?_; rotate_left; focus (intro w hSw; (try dsimp only at hSw); simp only [List.getElem_toArray, List.getElem_cons_zero, List.getElem_cons_succ]; go_simp; (first | done | with_reducible rfl)))
            simp only [List.getElem_toArray, List.getElem_cons_zero, List.getElem_cons_succ, Act.put, List.setIfInBounds_toArray, List.set_cons_zero, List.set_cons_succ]
            first
              | refine wpAnyT_take (i := 12) (v := undef) rfl (by kernel_rfl) (by kernel_rfl) (by kernel_rfl) (by kernel_rfl) (fun _ _ _ h => h) (Or.inr ⟨by rfl, rfl⟩) (by assumption) ?_
              | (refine wpAnyT_take (i := 12) (v := ?_) rfl (by kernel_rfl) (by kernel_rfl) (by kernel_rfl) (by kernel_rfl) (fun _ _ _ h => h) (Or.inl ⟨by rfl, ?_⟩) (by assumption) ?_; rotate_left; focus (intro w hSw; (try dsimp only at hSw); simp only [List.getElem_toArray, List.getElem_cons_zero, List.getElem_cons_succ]; go_simp; (first | done | with_reducible rfl)))
            simp only [List.getElem_toArray, List.getElem_cons_zero, List.getElem_cons_succ, Act.put, List.setIfInBounds_toArray, List.set_cons_zero, List.set_cons_succ]
            first
              | refine wpAnyT_take (i := 13) (v := undef) rfl (by kernel_rfl) (by kernel_rfl) (by kernel_rfl) (by kernel_rfl) (fun _ _ _ h => h) (Or.inr ⟨by rfl, rfl⟩) (by assumption) ?_
              | (refine wpAnyT_take (i := 13) (v := ?_) rfl (by kernel_rfl) (by kernel_rfl) (by kernel_rfl) (by kernel_rfl) (fun _ _ _ h => h) (Or.inl ⟨by rfl, ?_⟩) (by assumption) ?_; rotate_left; focus (intro w hSw; (try dsimp only at hSw); simp only [List.getElem_toArray, List.getElem_cons_zero, List.getElem_cons_succ]; go_simp; (first | done | with_reducible rfl)))
            simp only [List.getElem_toArray, List.getElem_cons_zero, List.getElem_cons_succ, Act.put, List.setIfInBounds_toArray, List.set_cons_zero, List.set_cons_succ]
            first
              | refine wpAnyT_take (i := 14) (v := undef) rfl (by kernel_rfl) (by kernel_rfl) (by kernel_rfl) (by kernel_rfl) (fun _ _ _ h => h) (Or.inr ⟨by rfl, rfl⟩) (by assumption) ?_
              | (refine wpAnyT_take (i := 14) (v := ?_) rfl (by kernel_rfl) (by kernel_rfl) (by kernel_rfl) (by kernel_rfl) (fun _ _ _ h => h) (Or.inl ⟨by rfl, ?_⟩) (by assumption) ?_; rotate_left; focus (intro w hSw; (try dsimp only at hSw); simp only [List.getElem_toArray, List.getElem_cons_zero, List.getElem_cons_succ]; go_simp; (first | done | with_reducible rfl)))
            simp only [List.getElem_toArray, List.getElem_cons_zero, List.getElem_cons_succ, Act.put, List.setIfInBounds_toArray, List.set_cons_zero, List.set_cons_succ]
            first
              | refine wpAnyT_take (i := 15) (v := undef) rfl (by kernel_rfl) (by kernel_rfl) (by kernel_rfl) (by kernel_rfl) (fun _ _ _ h => h) (Or.inr ⟨by rfl, rfl⟩) (by assumption) ?_
              | (refine wpAnyT_take (i := 15) (v := ?_) rfl (by kernel_rfl) (by kernel_rfl) (by kernel_rfl) (by kernel_rfl) (fun _ _ _ h => h) (Or.inl ⟨by rfl, ?_⟩) (by assumption) ?_; rotate_left; focus (intro w hSw; (try dsimp only at hSw); simp only [List.getElem_toArray, List.getElem_cons_zero, List.getElem_cons_succ]; go_simp; (first | done | with_reducible rfl)))
            simp only [List.getElem_toArray, List.getElem_cons_zero, List.getElem_cons_succ, Act.put, List.setIfInBounds_toArray, List.set_cons_zero, List.set_cons_succ]
            first
              | refine wpAnyT_take (i := 16) (v := undef) rfl (by kernel_rfl) (by kernel_rfl) (by kernel_rfl) (by kernel_rfl) (fun _ _ _ h => h) (Or.inr ⟨by rfl, rfl⟩) (by assumption) ?_
              | (refine wpAnyT_take (i := 16) (v := ?_) rfl (by kernel_rfl) (by kernel_rfl) (by kernel_rfl) (by kernel_rfl) (fun _ _ _ h => h) (Or.inl ⟨by rfl, ?_⟩) (by assumption) ?_; rotate_left; focus (intro w hSw; (try dsimp only at hSw); simp only [List.getElem_toArray, List.getElem_cons_zero, List.getElem_cons_succ]; go_simp; (first | done | with_reducible rfl)))
            simp only [List.getElem_toArray, List.getElem_cons_zero, List.getElem_cons_succ, Act.put, List.setIfInBounds_toArray, List.set_cons_zero, List.set_cons_succ]
            first
              | refine wpAnyT_take (i := 17) (v := undef) rfl (by kernel_rfl) (by kernel_rfl) (by kernel_rfl) (by kernel_rfl) (fun _ _ _ h => h) (Or.inr ⟨by rfl, rfl⟩) (by assumption) ?_
              | (refine wpAnyT_take (i := 17) (v := ?_) rfl (by kernel_rfl) (by kernel_rfl) (by kernel_rfl) (by kernel_rfl) (fun _ _ _ h => h) (Or.inl ⟨by rfl, ?_⟩) (by assumption) ?_; rotate_left; focus (intro w hSw; (try dsimp only at hSw); simp only [List.getElem_toArray, List.getElem_cons_zero, List.getElem_cons_succ]; go_simp; (first | done | with_reducible rfl)))
            simp only [List.getElem_toArray, List.getElem_cons_zero, List.getElem_cons_succ, Act.put, List.setIfInBounds_toArray, List.set_cons_zero, List.set_cons_succ]
            first
              | refine wpAnyT_take (i := 18) (v := undef) rfl (by kernel_rfl) (by kernel_rfl) (by kernel_rfl) (by kernel_rfl) (fun _ _ _ h => h) (Or.inr ⟨by rfl, rfl⟩) (by assumption) ?_
              | (refine wpAnyT_take (i := 18) (v := ?_) rfl (by kernel_rfl) (by kernel_rfl) (by kernel_rfl) (by kernel_rfl) (fun _ _ _ h => h) (Or.inl ⟨by rfl, ?_⟩) (by assumption) ?_; rotate_left; focus (intro w hSw; (try dsimp only at hSw); simp only [List.getElem_toArray, List.getElem_cons_zero, List.getElem_cons_succ]; go_simp; (first | done | with_reducible rfl)))
            simp only [List.getElem_toArray, List.getElem_cons_zero, List.getElem_cons_succ, Act.put, List.setIfInBounds_toArray, List.set_cons_zero, List.set_cons_succ]
            first
              | refine wpAnyT_take (i := 19) (v := undef) rfl (by kernel_rfl) (by kernel_rfl) (by kernel_rfl) (by kernel_rfl) (fun _ _ _ h => h) (Or.inr ⟨by rfl, rfl⟩) (by assumption) ?_
              | (refine wpAnyT_take (i := 19) (v := ?_) rfl (by kernel_rfl) (by kernel_rfl) (by kernel_rfl) (by kernel_rfl) (fun _ _ _ h => h) (Or.inl ⟨by rfl, ?_⟩) (by assumption) ?_; rotate_left; focus (intro w hSw; (try dsimp only at hSw); simp only [List.getElem_toArray, List.getElem_cons_zero, List.getElem_cons_succ]; go_simp; (first | done | with_reducible rfl)))
            simp only [List.getElem_toArray, List.getElem_cons_zero, List.getElem_cons_succ, Act.put, List.setIfInBounds_toArray, List.set_cons_zero, List.set_cons_succ]
            first
              | refine wpAnyT_take (i := 20) (v := undef) rfl (by kernel_rfl) (by kernel_rfl) (by kernel_rfl) (by kernel_rfl) (fun _ _ _ h => h) (Or.inr ⟨by rfl, rfl⟩) (by assumption) ?_
              | (refine wpAnyT_take (i := 20) (v := ?_) rfl (by kernel_rfl) (by kernel_rfl) (by kernel_rfl) (by kernel_rfl) (fun _ _ _ h => h) (Or.inl ⟨by rfl, ?_⟩) (by assumption) ?_; rotate_left; focus (intro w hSw; (try dsimp only at hSw); simp only [List.getElem_toArray, List.getElem_cons_zero, List.getElem_cons_succ]; go_simp; (first | done | with_reducible rfl)))
            simp only [List.getElem_toArray, List.getElem_cons_zero, List.getElem_cons_succ, Act.put, List.setIfInBounds_toArray, List.set_cons_zero, List.set_cons_succ]
            first
              | refine wpAnyT_take (i := 21) (v := undef) rfl (by kernel_rfl) (by kernel_rfl) (by kernel_rfl) (by kernel_rfl) (fun _ _ _ h => h) (Or.inr ⟨by rfl, rfl⟩) (by assumption) ?_
              | (refine wpAnyT_take (i := 21) (v := ?_) rfl (by kernel_rfl) (by kernel_rfl) (by kernel_rfl) (by kernel_rfl) (fun _ _ _ h => h) (Or.inl ⟨by rfl, ?_⟩) (by assumption) ?_; rotate_left; focus (intro w hSw; (try dsimp only at hSw); simp only [List.getElem_toArray, List.getElem_cons_zero, List.getElem_cons_succ]; go_simp; (first | done | with_reducible rfl)))
            simp only [List.getElem_toArray, List.getElem_cons_zero, List.getElem_cons_succ, Act.put, List.setIfInBounds_toArray, List.set_cons_zero, List.set_cons_succ]
            first
              | refine wpAnyT_take (i := 22) (v := undef) rfl (by kernel_rfl) (by kernel_rfl) (by kernel_rfl) (by kernel_rfl) (fun _ _ _ h => h) (Or.inr ⟨by rfl, rfl⟩) (by assumption) ?_
              | (refine wpAnyT_take (i := 22) (v := ?_) rfl (by kernel_rfl) (by kernel_rfl) (by kernel_rfl) (by kernel_rfl) (fun _ _ _ h => h) (Or.inl ⟨by rfl, ?_⟩) (by assumption) ?_; rotate_left; focus (intro w hSw; (try dsimp only at hSw); simp only [List.getElem_toArray, List.getElem_cons_zero, List.getElem_cons_succ]; go_simp; (first | done | with_reducible rfl)))
            simp only [List.getElem_toArray, List.getElem_cons_zero, List.getElem_cons_succ, Act.put, List.setIfInBounds_toArray, List.set_cons_zero, List.set_cons_succ]
            first
              | refine wpAnyT_take (i := 23) (v := undef) rfl (by kernel_rfl) (by kernel_rfl) (by kernel_rfl) (by kernel_rfl) (fun _ _ _ h => h) (Or.inr ⟨by rfl, rfl⟩) (by assumption) ?_
              | (refine wpAnyT_take (i := 23) (v := ?_) rfl (by kernel_rfl) (by kernel_rfl) (by kernel_rfl) (by kernel_rfl) (fun _ _ _ h => h) (Or.inl ⟨by rfl, ?_⟩) (by assumption) ?_; rotate_left; focus (intro w hSw; (try dsimp only at hSw); simp only [List.getElem_toArray, List.getElem_cons_zero, List.getElem_cons_succ]; go_simp; (first | done | with_reducible rfl)))
            simp only [List.getElem_toArray, List.getElem_cons_zero, List.getElem_cons_succ, Act.put, List.setIfInBounds_toArray, List.set_cons_zero, List.set_cons_succ]
            first
              | refine wpAnyT_take (i := 24) (v := undef) rfl (by kernel_rfl) (by kernel_rfl) (by kernel_rfl) (by kernel_rfl) (fun _ _ _ h => h) (Or.inr ⟨by rfl, rfl⟩) (by assumption) ?_
              | (refine wpAnyT_take (i := 24) (v := ?_) rfl (by kernel_rfl) (by kernel_rfl) (by kernel_rfl) (by kernel_rfl) (fun _ _ _ h => h) (Or.inl ⟨by rfl, ?_⟩) (by assumption) ?_; rotate_left; focus (intro w hSw; (try dsimp only at hSw); simp only [List.getElem_toArray, List.getElem_cons_zero, List.getElem_cons_succ]; go_simp; (first | done | with_reducible rfl)))
            simp only [List.getElem_toArray, List.getElem_cons_zero, List.getElem_cons_succ, Act.put, List.setIfInBounds_toArray, List.set_cons_zero, List.set_cons_succ]
            first
              | refine wpAnyT_take (i := 25) (v := undef) rfl (by kernel_rfl) (by kernel_rfl) (by kernel_rfl) (by kernel_rfl) (fun _ _ _ h => h) (Or.inr ⟨by rfl, rfl⟩) (by assumption) ?_
              | (refine wpAnyT_take (i := 25) (v := ?_) rfl (by kernel_rfl) (by kernel_rfl) (by kernel_rfl) (by kernel_rfl) (fun _ _ _ h => h) (Or.inl ⟨by rfl, ?_⟩) (by assumption) ?_; rotate_left; focus (intro w hSw; (try dsimp only at hSw); simp only [List.getElem_toArray, List.getElem_cons_zero, List.getElem_cons_succ]; go_simp; (first | done | with_reducible rfl)))
            simp only [List.getElem_toArray, List.getElem_cons_zero, List.getElem_cons_succ, Act.put, List.setIfInBounds_toArray, List.set_cons_zero, List.set_cons_succ]
            first
              | refine wpAnyT_take (i := 26) (v := undef) rfl (by kernel_rfl) (by kernel_rfl) (by kernel_rfl) (by kernel_rfl) (fun _ _ _ h => h) (Or.inr ⟨by rfl, rfl⟩) (by assumption) ?_
              | (refine wpAnyT_take (i := 26) (v := ?_) rfl (by kernel_rfl) (by kernel_rfl) (by kernel_rfl) (by kernel_rfl) (fun _ _ _ h => h) (Or.inl ⟨by rfl, ?_⟩) (by assumption) ?_; rotate_left; focus (intro w hSw; (try dsimp only at hSw); simp only [List.getElem_toArray, List.getElem_cons_zero, List.getElem_cons_succ]; go_simp; (first | done | with_reducible rfl)))
            simp only [List.getElem_toArray, List.getElem_cons_zero, List.getElem_cons_succ, Act.put, List.setIfInBounds_toArray, List.set_cons_zero, List.set_cons_succ]
            first
              | refine wpAnyT_take (i := 27) (v := undef) rfl (by kernel_rfl) (by kernel_rfl) (by kernel_rfl) (by kernel_rfl) (fun _ _ _ h => h) (Or.inr ⟨by rfl, rfl⟩) (by assumption) ?_
              | (refine wpAnyT_take (i := 27) (v := ?_) rfl (by kernel_rfl) (by kernel_rfl) (by kernel_rfl) (by kernel_rfl) (fun _ _ _ h => h) (Or.inl ⟨by rfl, ?_⟩) (by assumption) ?_; rotate_left; focus (intro w hSw; (try dsimp only at hSw); simp only [List.getElem_toArray, List.getElem_cons_zero, List.getElem_cons_succ]; go_simp; (first | done | with_reducible rfl)))
            simp only [List.getElem_toArray, List.getElem_cons_zero, List.getElem_cons_succ, Act.put, List.setIfInBounds_toArray, List.set_cons_zero, List.set_cons_succ]
            first
              | refine wpAnyT_take (i := 28) (v := undef) rfl (by kernel_rfl) (by kernel_rfl) (by kernel_rfl) (by kernel_rfl) (fun _ _ _ h => h) (Or.inr ⟨by rfl, rfl⟩) (by assumption) ?_
              | (refine wpAnyT_take (i := 28) (v := ?_) rfl (by kernel_rfl) (by kernel_rfl) (by kernel_rfl) (by kernel_rfl) (fun _ _ _ h => h) (Or.inl ⟨by rfl, ?_⟩) (by assumption) ?_; rotate_left; focus (intro w hSw; (try dsimp only at hSw); simp only [List.getElem_toArray, List.getElem_cons_zero, List.getElem_cons_succ]; go_simp; (first | done | with_reducible rfl)))
            simp only [List.getElem_toArray, List.getElem_cons_zero, List.getElem_cons_succ, Act.put, List.setIfInBounds_toArray, List.set_cons_zero, List.set_cons_succ]
            first
              | refine wpAnyT_take (i := 29) (v := undef) rfl (by kernel_rfl) (by kernel_rfl) (by kernel_rfl) (by kernel_rfl) (fun _ _ _ h => h) (Or.inr ⟨by rfl, rfl⟩) (by assumption) ?_
              | (refine wpAnyT_take (i := 29) (v := ?_) rfl (by kernel_rfl) (by kernel_rfl) (by kernel_rfl) (by kernel_rfl) (fun _ _ _ h => h) (Or.inl ⟨by rfl, ?_⟩) (by assumption) ?_; rotate_left; focus (intro w hSw; (try dsimp only at hSw); simp only [List.getElem_toArray, List.getElem_cons_zero, List.getElem_cons_succ]; go_simp; (first | done | with_reducible rfl)))
            simp only [List.getElem_toArray, List.getElem_cons_zero, List.getElem_cons_succ, Act.put, List.setIfInBounds_toArray, List.set_cons_zero, List.set_cons_succ]
            first
              | refine wpAnyT_take (i := 30) (v := undef) rfl (by kernel_rfl) (by kernel_rfl) (by kernel_rfl) (by kernel_rfl) (fun _ _ _ h => h) (Or.inr ⟨by rfl, rfl⟩) (by assumption) ?_
              | (refine wpAnyT_take (i := 30) (v := ?_) rfl (by kernel_rfl) (by kernel_rfl) (by kernel_rfl) (by kernel_rfl) (fun _ _ _ h => h) (Or.inl ⟨by rfl, ?_⟩) (by assumption) ?_; rotate_left; focus (intro w hSw; (try dsimp only at hSw); simp only [List.getElem_toArray, List.getElem_cons_zero, List.getElem_cons_succ]; go_simp; (first | done | with_reducible rfl)))
            simp only [List.getElem_toArray, List.getElem_cons_zero, List.getElem_cons_succ, Act.put, List.setIfInBounds_toArray, List.set_cons_zero, List.set_cons_succ]
            first
              | refine wpAnyT_take (i := 31) (v := undef) rfl (by kernel_rfl) (by kernel_rfl) (by kernel_rfl) (by kernel_rfl) (fun _ _ _ h => h) (Or.inr ⟨by rfl, rfl⟩) (by assumption) ?_
              | (refine wpAnyT_take (i := 31) (v := ?_) rfl (by kernel_rfl) (by kernel_rfl) (by kernel_rfl) (by kernel_rfl) (fun _ _ _ h => h) (Or.inl ⟨by rfl, ?_⟩) (by assumption) ?_; rotate_left; focus (intro w hSw; (try dsimp only at hSw); simp only [List.getElem_toArray, List.getElem_cons_zero, List.getElem_cons_succ]; go_simp; (first | done | with_reducible rfl)))
            simp only [List.getElem_toArray, List.getElem_cons_zero, List.getElem_cons_succ, Act.put, List.setIfInBounds_toArray, List.set_cons_zero, List.set_cons_succ]
            first
              | refine wpAnyT_take (i := 32) (v := undef) rfl (by kernel_rfl) (by kernel_rfl) (by kernel_rfl) (by kernel_rfl) (fun _ _ _ h => h) (Or.inr ⟨by rfl, rfl⟩) (by assumption) ?_
              | (refine wpAnyT_take (i := 32) (v := ?_) rfl (by kernel_rfl) (by kernel_rfl) (by kernel_rfl) (by kernel_rfl) (fun _ _ _ h => h) (Or.inl ⟨by rfl, ?_⟩) (by assumption) ?_; rotate_left; focus (intro w hSw; (try dsimp only at hSw); simp only [List.getElem_toArray, List.getElem_cons_zero, List.getElem_cons_succ]; go_simp; (first | done | with_reducible rfl)))
            simp only [List.getElem_toArray, List.getElem_cons_zero, List.getElem_cons_succ, Act.put, List.setIfInBounds_toArray, List.set_cons_zero, List.set_cons_succ]
            first
              | refine wpAnyT_take (i := 33) (v := undef) rfl (by kernel_rfl) (by kernel_rfl) (by kernel_rfl) (by kernel_rfl) (fun _ _ _ h => h) (Or.inr ⟨by rfl, rfl⟩) (by assumption) ?_
              | (refine wpAnyT_take (i := 33) (v := ?_) rfl (by kernel_rfl) (by kernel_rfl) (by kernel_rfl) (by kernel_rfl) (fun _ _ _ h => h) (Or.inl ⟨by rfl, ?_⟩) (by assumption) ?_; rotate_left; focus (intro w hSw; (try dsimp only at hSw); simp only [List.getElem_toArray, List.getElem_cons_zero, List.getElem_cons_succ]; go_simp; (first | done | with_reducible rfl)))
            simp only [List.getElem_toArray, List.getElem_cons_zero, List.getElem_cons_succ, Act.put, List.setIfInBounds_toArray, List.set_cons_zero, List.set_cons_succ]
            first
              | refine wpAnyT_take (i := 34) (v := undef) rfl (by kernel_rfl) (by kernel_rfl) (by kernel_rfl) (by kernel_rfl) (fun _ _ _ h => h) (Or.inr ⟨by rfl, rfl⟩) (by assumption) ?_
              | (refine wpAnyT_take (i := 34) (v := ?_) rfl (by kernel_rfl) (by kernel_rfl) (by kernel_rfl) (by kernel_rfl) (fun _ _ _ h => h) (Or.inl ⟨by rfl, ?_⟩) (by assumption) ?_; rotate_left; focus (intro w hSw; (try dsimp only at hSw); simp only [List.getElem_toArray, List.getElem_cons_zero, List.getElem_cons_succ]; go_simp; (first | done | with_reducible rfl)))
            simp only [List.getElem_toArray, List.getElem_cons_zero, List.getElem_cons_succ, Act.put, List.setIfInBounds_toArray, List.set_cons_zero, List.set_cons_succ]
            refine wpAnyT_ready (rs := [35]) (by kernel_rfl) (by simp) ?_
            refine AllReadyT.last rfl (by kernel_rfl) (fun K hK => ?_)
            go_simp
            refine hK.out _ _ ?_
            refine NoPanic.normal ?_
            go_wp2_with fail
            exact ⟨⟨j + 1, by omega, by go_num, by rw [HNX.out], hid HKi.out.drew⟩, by simp [intOf]; omega⟩
        · obtain rfl : j = n := by omega
          have hlj' : ¬ (j : Int) < (j : Int) := by omega
          go_wp2_with fail
          exact ⟨⟨k + 1, by omega, by go_num, by rw [HSN.out], HKi⟩, by simp [intOf]; omega⟩
    · obtain rfl : k = m := by omega
      have hlt' : ¬ (k : Int) < (k : Int) := by omega
      have htk : l.take k = l := List.take_of_length_le (by rw [HM.out]; omega)
      rw [htk]
      go_wp2_with fail
      go_ret
      exact ⟨rfl, HK.out⟩
end

end Go.Proofs.YtkpnmajocgcccaaGreat

namespace Go.Proofs.YtkpnmajocgcccaaGreat
open Go.RowKit
set_option linter.unusedVariables false
set_option linter.unusedSimpArgs false

theorem run_append_ints (ty : TypeId) (base : Nat) (v u : Value) (l m : List Int) (w : World) (hv : IRow w base v l) (hu : Ints w u m) (h1 : l.length + m.length ≤ 1000000) (hb : base ≤ w.heap.size) :
    ∃ v' w', (Builtin.append_ #[126, 126] ty #[v, u]).run Tryz.prog w = .ok v' w' ∧ IRow w' base v' (l ++ m) ∧ Keeps (fun k => v.ownBlock = some k) w w' ∧ (v'.ownBlock = v.ownBlock ∨ v'.ownBlock = some w.heap.size) := by
  obtain ⟨ri, hi1, hi2, hi3, hi4⟩ := int_info
  rcases hu with ⟨rfl, rfl⟩ | ⟨g, cap, cur, rfl, hg, hc⟩
  · refine ⟨v, w, ?_, by simpa using hv, Keeps.refl _ _, .inl rfl⟩
    rcases hv.2 with ⟨rfl, _⟩ | ⟨g, c, cur, rfl, _, _, hn, _⟩
    · simp [Builtin.append_, run_underlying Tryz.underlying126, sizeOf, typeInfo, hi1, Builtin.lenOf, Builtin.firstCells]
    · simp [Builtin.append_, run_underlying Tryz.underlying126, sizeOf, typeInfo, hi1, Builtin.lenOf, Builtin.firstCells, hn, storeCells]
  · obtain ⟨v', w', r1, r2, r3, _, r5⟩ := run_append_own_at (P := Tryz.prog) w base 126 ty 3 ri (.int .i64 0) 1 8 Tryz.underlying126 hi1 hi2 hi3 hi4 rfl (by decide) v l.length (l.map (Value.int .i64)) hv ⟨g, 0, none⟩ m.length cap (m.map (Value.int .i64)) (by simp)
      (fun j x hj => by
        have hjl : j < m.length := by have := (List.getElem?_eq_some_iff.1 hj).1; simpa using this
        obtain ⟨r, hr⟩ : ∃ r, m[j]? = some r := ⟨_, List.getElem?_eq_getElem hjl⟩
        rw [List.getElem?_map, hr] at hj
        rw [Addr.add_mid, Nat.zero_add, cell_block hg, hc _ r hr]
        exact hj)
      (fun u hu => by obtain ⟨x, _, rfl⟩ := List.mem_map.1 hu; rfl) (by simp [maxLen]; omega) (by omega) hb
    refine ⟨v', w', r1, ?_, (grown_keeps r3).mono (fun k _ h => h), r5⟩
    unfold IRow
    rw [List.length_append, List.map_append]
    exact r2
theorem wpList_append_ints {ops : Array Oper} {rest : List Oper} {o : Oper} {a : Act} {Q : Exit → Act → World → Prop} (w : World) (hgd : o.guard = none) (s x : Operand)
    (ho : o.op = .call { callee := .builtin .append, args := #[s, x], argTypes := #[126, 126] })
    (base : Nat) (v u : Value) (l m : List Int) (hs : a.eval s = v) (hx : a.eval x = u) (hv : IRow w base v l) (hu : Ints w u m) (h1 : l.length + m.length ≤ 1000000) (hb : base ≤ w.heap.size)
    (h : ∀ v' w', IRow w' base v' (l ++ m) → Keeps (fun k => v.ownBlock = some k) w w' → (v'.ownBlock = v.ownBlock ∨ v'.ownBlock = some w.heap.size) → wpList Tryz.prog ops Q rest (a.put o.dst v') w') :
    wpList Tryz.prog ops Q (o :: rest) a w := by
  refine wpList_plain hgd fun K hK => ?_
  obtain ⟨v', w', hr, h2, h3, h4⟩ := run_append_ints o.type base v u l m w hv hu h1 hb
  unfold Oper.wp execOp
  simp only [ho, resolve, invoke, builtin, Sem.run_bind, Sem.run_pure, Result.andThen_ok, List.map_toArray, List.map_cons, List.map_nil, hs, hx, hr]
  exact hK _ _ (h v' w' h2 h3 h4)
theorem ints_one {w : World} {B : Nat} {x : Int} (h : w.heap[B]? = some (.cells #[.int .i64 x] 3)) : Ints w (.slice (some ⟨B, 0, none⟩) 1 1) [x] :=
  .inr ⟨B, 1, _, rfl, h, fun j r hj => by
    rcases j with _ | j
    · simp at hj; subst hj; rfl
    · simp at hj⟩
theorem irow_one {w : World} {base B : Nat} {x : Int} (h : w.heap[B]? = some (.cells #[.int .i64 x] 3)) (hb : base ≤ B) : IRow w base (.slice (some ⟨B, 0, none⟩) 1 1) [x] :=
  ⟨by simp, .inr ⟨B, 1, _, rfl, hb, h, by simp, by simp [maxLen], by simp, by simp⟩⟩
theorem row_one {w : World} {base B : Nat} {x : Rf} (h : w.heap[B]? = some (.cells #[.int .i64 x.s, .int .u32 x.g] 41)) (hb : base ≤ B) : Row w base (.slice (some ⟨B, 0, none⟩) 1 1) [x] :=
  ⟨rfl, .inr ⟨B, 1, _, rfl, hb, h, by simp, by simp [maxLen], by simp, by simp [encR]⟩⟩
end Go.Proofs.YtkpnmajocgcccaaGreat
