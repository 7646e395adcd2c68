/- estrayref19: Path. -/
import Derived.Test.YtkpnmajocgcccaaGreatRgL
namespace Go.Proofs.YtkpnmajocgcccaaGreat
open Go.RowKit
set_option linter.unusedVariables false
set_option linter.unusedSimpArgs false

theorem bkS_at {H : Hp} {q : Be} {i : Nat} {x : Rf} {d : Nat} (h : q[i]? = some (x, d)) : bkS H q i = H.T.tk.foldl (bk1 H x (d + 1)) q := by unfold bkS; rw [h]
theorem foldl_snoc {H : Hp} {x : Rf} {d : Nat} {q : Be} {m : List Rf} {k : Nat} {y : Rf} (hy : m[k]? = some y) : (m.take (k + 1)).foldl (bk1 H x d) q = bk1 H x d ((m.take k).foldl (bk1 H x d) q) y := by
  rw [take_snoc hy, List.foldl_append]; rfl
theorem Be.ns_snoc (q : Be) (y : Rf) (d : Nat) : (q ++ [(y, d)]).ns = q.ns ++ [y] := by simp [Be.ns]
theorem Be.ds_snoc (q : Be) (y : Rf) (d : Nat) : (q ++ [(y, d)]).ds = q.ds ++ [(d : Int)] := by simp [Be.ds]
theorem bk1_pre (H : Hp) (x : Rf) (d : Nat) : ∀ (m : List Rf) (q : Be), ∃ t, m.foldl (bk1 H x d) q = q ++ t ∧ t.length ≤ m.length
  | [], q => ⟨[], by simp, by simp⟩
  | y :: m, q => by
    by_cases h : x ∈ kids H y ∧ y ∉ q.map (·.1)
    · obtain ⟨t, e, hl⟩ := bk1_pre H x d m (q ++ [(y, d)])
      refine ⟨(y, d) :: t, ?_, by simp; omega⟩
      show m.foldl _ (bk1 H x d q y) = _
      unfold bk1 at e ⊢
      rw [if_pos h, e]; simp
    · obtain ⟨t, e, hl⟩ := bk1_pre H x d m q
      refine ⟨t, ?_, by simp; omega⟩
      show m.foldl _ (bk1 H x d q y) = _
      unfold bk1 at e ⊢
      rw [if_neg h, e]
theorem bk1_mem (H : Hp) (x : Rf) (d : Nat) : ∀ (m : List Rf) (q : Be) (p : Rf × Nat), p ∈ m.foldl (bk1 H x d) q → p ∈ q ∨ p.2 = d
  | [], q, p, h => .inl h
  | y :: m, q, p, h => by
    rcases bk1_mem H x d m (bk1 H x d q y) p h with h | h
    · unfold bk1 at h
      split at h
      · rcases List.mem_append.1 h with h | h
        · exact .inl h
        · rw [List.mem_singleton.1 h]; exact .inr rfl
      · exact .inl h
    · exact .inr h
theorem bk_le (H : Hp) (r : Rf) : ∀ (i : Nat) (p : Rf × Nat), p ∈ bk H r i → p.2 ≤ i
  | 0, p, h => by
    rw [List.mem_singleton.1 h]; exact Nat.le_refl 0
  | i + 1, p, h => by
    change p ∈ bkS H (bk H r i) i at h
    unfold bkS at h
    split at h
    · rename_i x hx
      rcases bk1_mem H _ _ _ _ p h with h | h
      · exact Nat.le_succ_of_le (bk_le H r i p h)
      · have := bk_le H r i x (List.mem_of_getElem? hx)
        omega
    · exact Nat.le_succ_of_le (bk_le H r i p h)
theorem irow_ne {w : World} {base b2 : Nat} {v u : Value} {l : List Int} {m : List Rf} (hi : IRow w base v l) (hr : Row w b2 u m) : ∀ z, v.ownBlock = some z → ¬ u.ownBlock = some z := by
  intro z h1 h2
  rcases hi.cells with ⟨rfl, _⟩ | ⟨g, cap, cur, rfl, _, hg, _⟩
  · cases h1
  · obtain rfl : g = z := Option.some.inj h1
    exact own_ne hr hg (by decide) h2
theorem irow_refs_ne {w : World} {base : Nat} {v u : Value} {l : List Int} {m : List Rf} (hi : IRow w base v l) (hr : Refs w u m) : ∀ z, v.ownBlock = some z → ¬ u.ownBlock = some z := by
  intro z h1 h2
  rcases hi.cells with ⟨rfl, _⟩ | ⟨g, cap, cur, rfl, _, hg, _⟩
  · cases h1
  · rcases hr with ⟨rfl, _⟩ | ⟨g', cap', cur', rfl, hg', _⟩
    · cases h2
    · obtain rfl : g = z := Option.some.inj h1
      obtain rfl : g' = g := Option.some.inj h2
      exact type_ne hg hg' (by decide) rfl
section
variable {w w' : World} {x N : Nat} {L : L18} {A A' : Ar}
set_option maxRecDepth 100000 in
set_option maxHeartbeats 8000000 in
theorem path19 (r : Rf) (h : R18 w x L A) :
    Calls Tryz.prog 25 #[.pointer (some ⟨x, 0, none⟩), .agg #[.int .i64 r.s, .int .u32 r.g]] w fun e w' => ∃ v, e = .returned (.tuple #[v, .bool (decide (r ∈ A.rq.keys)), .int .i64 (ckV A.H.T r.s r.g)]) ∧ Row w' w.heap.size v (A.wayL r) ∧ Keeps (fun _ => False) w w' := by
  have HH := hid (fun W (hk : Keeps (fun _ => False) w W) => h.k0 hk)
  have HIS := hid (fun W (hk : Keeps (fun _ => False) w W) => is19 r (h.k0 hk))
  have hno : r ∉ A.rq.keys → A.wayL r = [] := fun hr => by unfold Ar.wayL wayQ; rw [if_neg hr]
  have hyes : r ∈ A.rq.keys → ckV A.H.T r.s r.g = 0 := fun hr => rq_there hr
  by_cases hm : r ∈ A.rq.keys
  · rw [decide_eq_true hm]
    rw [decide_eq_true hm] at HIS
    have hth : There A.H r := rq_there hm
    rw [hyes hm]
    rw [hyes hm] at HIS
    have HBK := hid (fun i => bk_all hth i)
    have hn2 := h.ok.n2
    have HHE := hid (fun W (hk : Keeps (fun _ => False) w W) => heap18 (h.k0 hk))
    have HOR := hid (fun W (hk : Keeps (fun _ => False) w W) => origins19 (h.k0 hk))
    have HM := hid hm; have HTH := hid hth
    clear h hno hyes hm hth
    go_enter Tryz.func25, Tryz.ntmps25
    go_wp2_with fail
    refine (HIS.out _ ((Keeps.refl _ _).alloc _)).mono ?_
    rintro e w1 ⟨rfl, k1⟩
    have hwl := k1.size
    rw [World.size_alloc] at hwl
    have HQ := hid (block_keep (alloc_new (w := w) (o := .cells #[.int .i64 r.s, .int .u32 r.g] 41)) k1 (fun h => h))
    have K1 := hid (((Keeps.refl (fun _ => False) w).alloc (.cells #[.int .i64 r.s, .int .u32 r.g] 41)).trans k1)
    have HE := hid (HHE.out _ (((Keeps.refl (fun _ => False) w).alloc (.cells #[.int .i64 r.s, .int .u32 r.g] 41)).trans k1))
    clear k1
    go_wp2_with fail
    refine HE.out.mono ?_
    rintro e w2 ⟨b9, r9, rfl, k2, _, _, h14⟩
    have hq2 := block_keep HQ.out k2 (fun h => h)
    have HQ2 := hid hq2
    obtain ⟨z0, z1, _, zl⟩ := cells2 hq2
    have K2 := hid (K1.out.trans k2)
    have H14 := hid h14
    clear k2 h14 hq2
    go_wp2_with fail
    have hqa : (((w2.alloc (.cells #[.int .i64 r.s, .int .u32 r.g] 41)).alloc (.cells #[.int .i64 0] 3))).heap[w2.heap.size]? = some (.cells #[.int .i64 r.s, .int .u32 r.g] 41) := alloc_old alloc_new
    have hqb : (((w2.alloc (.cells #[.int .i64 r.s, .int .u32 r.g] 41)).alloc (.cells #[.int .i64 0] 3))).heap[w2.heap.size + 1]? = some (.cells #[.int .i64 0] 3) := alloc_new' (by simp)
    have HRA := hid (row_one (base := w2.heap.size) hqa (Nat.le_refl _))
    have HRB := hid (irow_one (base := w2.heap.size) hqb (by omega))
    have HKA := hid (((Keeps.refl (fun _ => False) w2).alloc (.cells #[.int .i64 r.s, .int .u32 r.g] 41)).alloc (.cells #[.int .i64 0] 3))
    clear hqa hqb z0 z1 zl
    go_loopw [10, 11, 12] (fun s10 s11 ix wr => ∃ (i : Nat) (po pd : Option Addr) (co cd n : Nat), i ≤ n ∧ (bk A.H r i).length = n ∧ ix = .int .i64 i ∧ s10 = .slice po n co ∧ s11 = .slice pd n cd ∧ Hid (Row wr w2.heap.size (.slice po n co) (bk A.H r i).ns) ∧ Hid (IRow wr w2.heap.size (.slice pd n cd) (bk A.H r i).ds) ∧ Hid (Keeps (fun _ => False) w2 wr)) (fun _ _ ix _ => 300 - (intOf ix).toNat)
    case atStart => exact ⟨0, _, _, 1, 1, 1, Nat.zero_le _, rfl, rfl, rfl, rfl, HRA, HRB, HKA⟩
    case round =>
      clear HRA HRB HKA
      obtain ⟨i, po, pd, co, cd, n, hin, hlen, rfl, rfl, rfl, HRo, HRd, HK⟩ := hrel
      have hn256 : n ≤ 256 := by have := (HBK.out i).len; omega
      have hi0 : (0 : Int) ≤ i := by omega
      by_cases hlt : i < n
      · have hlt' : (i : Int) < (n : Int) := by omega
        obtain ⟨⟨y, d⟩, hy⟩ : ∃ y, (bk A.H r i)[i]? = some y := ⟨_, List.getElem?_eq_getElem (by omega)⟩
        have hdn : d ≤ 300 := by
          have := bk_le A.H r i _ (List.mem_of_getElem? hy)
          dsimp only at this
          omega
        have HNX := hid (show bk A.H r (i + 1) = A.H.T.tk.foldl (bk1 A.H y (d + 1)) (bk A.H r i) from bkS_at hy)
        have HA4 := hid (all14 (H14.out.keeps HK.out (fun h => h) (fun h => h)))
        have htk := tk_len14 H14.out
        obtain ⟨tk, htke⟩ : ∃ tk, A.H.T.tk = tk := ⟨_, rfl⟩
        rw [htke] at HA4 HNX htk
        obtain ⟨q, hqe⟩ : ∃ q, bk A.H r i = q := ⟨_, rfl⟩
        rw [hqe] at HRo HRd HNX hlen hy
        have HY := hid hy
        clear htke hqe hy
        go_wp2_with fail
        refine HA4.out.mono ?_
        rintro e w3 ⟨v13, rfl, hr13, k3⟩
        obtain ⟨p13, c13, rfl⟩ := hr13.refs.slice
        have HK3 := hid (HK.out.trans k3)
        have HRo3 := hid (HRo.out.keeps k3 (fun _ _ _ _ h => h))
        have HRd3 := hid (HRd.out.keeps k3 (fun _ _ _ _ h => h))
        have HR13 := hid hr13.refs
        have HNE := hid (show ∀ z, (Value.slice po n co).ownBlock = some z → (Value.slice p13 tk.length c13).ownBlock ≠ some z from fun z h1 h2 => by have := (HRo.out.lt z h1).2; have := (hr13.lt z h2).1; omega)
        clear hr13 k3 HRo HRd HK
        go_wp2_with fail
        go_loopw [10, 11, 14] (fun s10 s11 ix wr => ∃ (j : Nat) (po pd : Option Addr) (co cd n' : Nat), j ≤ tk.length ∧ ((tk.take j).foldl (bk1 A.H y (d + 1)) q).length = n' ∧ ix = .int .i64 j ∧ s10 = .slice po n' co ∧ s11 = .slice pd n' cd ∧ Hid (Row wr w2.heap.size (.slice po n' co) ((tk.take j).foldl (bk1 A.H y (d + 1)) q).ns) ∧ Hid (IRow wr w2.heap.size (.slice pd n' cd) ((tk.take j).foldl (bk1 A.H y (d + 1)) q).ds) ∧ Hid (Keeps (fun _ => False) w2 wr) ∧ Hid (Refs wr (.slice p13 tk.length c13) tk) ∧ Hid (∀ z, (Value.slice po n' co).ownBlock = some z → (Value.slice p13 tk.length c13).ownBlock ≠ some z)) (fun _ _ ix _ => tk.length - (intOf ix).toNat)
        case atStart => exact ⟨0, po, pd, co, cd, n, Nat.zero_le _, hlen, rfl, rfl, rfl, HRo3, HRd3, HK3, HR13, HNE⟩
        case round =>
          clear HRo3 HRd3 HK3 HR13 HNE HA4
          obtain ⟨j, po, pd, co, cd, n', hj, hlen', rfl, rfl, rfl, HRo, HRd, HK, HR13, HNE⟩ := hrel
          have hj0 : (0 : Int) ≤ j := by omega
          by_cases hlj : j < tk.length
          · have hlj' : (j : Int) < (tk.length : Int) := by omega
            obtain ⟨u, hu⟩ : ∃ u, tk[j]? = some u := ⟨_, List.getElem?_eq_getElem hlj⟩
            have HSN := hid (foldl_snoc (H := A.H) (x := y) (d := d + 1) (q := q) hu)
            obtain ⟨t, hpre, htl⟩ := bk1_pre A.H y (d + 1) (tk.take j) q
            rw [List.length_take] at htl
            obtain ⟨q', hq'⟩ : ∃ q', (tk.take j).foldl (bk1 A.H y (d + 1)) q = q' := ⟨_, rfl⟩
            rw [hq'] at HRo HRd HSN hlen' hpre
            have hn' : n' ≤ 600 := by rw [← hlen', hpre, List.length_append]; omega
            have hnn : n ≤ n' := by rw [← hlen', hpre, List.length_append]; omega
            have hyi : q'[i]? = some (y, d) := by rw [hpre, List.getElem?_append_left (by omega)]; exact HY.out
            have HYI := hid hyi
            have HU := hid hu
            have hin' : (i : Int) < (n' : Int) := by omega
            have hdw : IntKind.i64.wrap ((d : Int) + 1) = (d : Int) + 1 := IntWalk.i64_in _ (by omega)
            clear hq' hpre htl hu
            obtain ⟨g13, rfl, l13, c0, c1⟩ := HR13.out.cell.2 j u HU.out
            obtain ⟨g10, rfl, l10, e0, e1⟩ := HRo.out.refs.cell.2 i y (Be.ns_at hyi)
            have HPS := hid (fun W (hk : Keeps (fun _ => False) wr W) => show W.cell? ⟨g13, j * 2, none⟩ = some (.int .i64 u.s) ∧ W.cell? ⟨g13, j * 2 + 1, none⟩ = some (.int .u32 u.g) ∧ W.cell? ⟨g10, i * 2, none⟩ = some (.int .i64 y.s) ∧ W.cell? ⟨g10, i * 2 + 1, none⟩ = some (.int .u32 y.g) from by
              have e13 := hk.block g13 l13 (fun h => h)
              have e10 := hk.block g10 l10 (fun h => h)
              exact ⟨by rw [World.cell?_of_block e13]; exact c0, by rw [World.cell?_of_block e13]; exact c1, by rw [World.cell?_of_block e10]; exact e0, by rw [World.cell?_of_block e10]; exact e1⟩)
            have HCH := hid (fun W (hk : Keeps (fun _ => False) wr W) => children19 u (H14.out.keeps (HK.out.trans hk) (fun h => h) (fun h => h)))
            have hkl := kids_len A.H u
            obtain ⟨ks, hks⟩ : ∃ ks, kids A.H u = ks := ⟨_, rfl⟩
            have HKS := hid hks
            rw [hks] at HCH hkl
            have HH1 := hid (fun W v (hv : Refs W v ks) => has19 v ks y W hv (by omega))
            have HH2 := hid (fun W (hk : Keeps (fun _ => False) wr W) => has19 (.slice (some ⟨g10, 0, none⟩) n' co) q'.ns u W (HRo.out.refs.keeps hk (fun _ _ h => h)) (by rw [Be.ns_len]; omega))
            obtain ⟨B1, hB1⟩ : ∃ B, decide (y ∈ ks) = B := ⟨_, rfl⟩
            obtain ⟨B2, hB2⟩ : ∃ B, decide (u ∈ q'.ns) = B := ⟨_, rfl⟩
            rw [hB1] at HH1
            rw [hB2] at HH2
            have HB := hid (And.intro hB1 hB2)
            clear hks hB1 hB2 hyi
            go_upto_region 14 with (fail)
            refine wp_region_last 19 (fun W => W.cell? ⟨g13, j * 2, none⟩ = some (.int .i64 u.s) ∧ W.cell? ⟨g13, j * 2 + 1, none⟩ = some (.int .u32 u.g) ∧ W.cell? ⟨g10, i * 2, none⟩ = some (.int .i64 y.s) ∧ W.cell? ⟨g10, i * 2 + 1, none⟩ = some (.int .u32 y.g)) (by kernel_rfl) (HPS.out _ (Keeps.refl _ _).drew) (fun hS => ?_)
            refine wpAnyT_take (i := 0) (v := ?_) rfl (by kernel_rfl) (by kernel_rfl) (by kernel_rfl) (by kernel_rfl) (fun _ _ _ h => h) (Or.inl ⟨by rfl, ?_⟩) (by assumption) ?_
            rotate_left
            · (intro w hSw; (try dsimp only at hSw); simp only [List.getElem_toArray, List.getElem_cons_zero, List.getElem_cons_succ]; go_simp; (first | done | with_reducible rfl))
            simp only [List.getElem_toArray, List.getElem_cons_zero, List.getElem_cons_succ, Act.put, List.setIfInBounds_toArray, List.set_cons_zero, List.set_cons_succ]
            refine wpAnyT_take (i := 1) (v := ?_) rfl (by kernel_rfl) (by kernel_rfl) (by kernel_rfl) (by kernel_rfl) (fun _ _ _ h => h) (Or.inl ⟨by rfl, ?_⟩) (by assumption) ?_
            rotate_left
            · (intro w hSw; (try dsimp only at hSw); simp only [List.getElem_toArray, List.getElem_cons_zero, List.getElem_cons_succ]; go_simp; (first | done | with_reducible rfl))
            simp only [List.getElem_toArray, List.getElem_cons_zero, List.getElem_cons_succ, Act.put, List.setIfInBounds_toArray, List.set_cons_zero, List.set_cons_succ]
            refine wpAnyT_take (i := 2) (v := ?_) rfl (by kernel_rfl) (by kernel_rfl) (by kernel_rfl) (by kernel_rfl) (fun _ _ _ h => h) (Or.inl ⟨by rfl, ?_⟩) (by assumption) ?_
            rotate_left
            · (intro w hSw; (try dsimp only at hSw); simp only [List.getElem_toArray, List.getElem_cons_zero, List.getElem_cons_succ]; go_simp; (first | done | with_reducible rfl))
            simp only [List.getElem_toArray, List.getElem_cons_zero, List.getElem_cons_succ, Act.put, List.setIfInBounds_toArray, List.set_cons_zero, List.set_cons_succ]
            refine wpAnyT_take (i := 3) (v := ?_) rfl (by kernel_rfl) (by kernel_rfl) (by kernel_rfl) (by kernel_rfl) (fun _ _ _ h => h) (Or.inl ⟨by rfl, ?_⟩) (by assumption) ?_
            rotate_left
            · (intro w hSw; (try dsimp only at hSw); simp only [List.getElem_toArray, List.getElem_cons_zero, List.getElem_cons_succ]; go_simp; (first | done | with_reducible rfl))
            simp only [List.getElem_toArray, List.getElem_cons_zero, List.getElem_cons_succ, Act.put, List.setIfInBounds_toArray, List.set_cons_zero, List.set_cons_succ]
            refine wpAnyT_take (i := 4) (v := ?_) rfl (by kernel_rfl) (by kernel_rfl) (by kernel_rfl) (by kernel_rfl) (fun _ _ _ h => h) (Or.inl ⟨by rfl, ?_⟩) (by assumption) ?_
            rotate_left
            · (intro w hSw; (try dsimp only at hSw); simp only [List.getElem_toArray, List.getElem_cons_zero, List.getElem_cons_succ]; go_simp; (first | done | with_reducible rfl))
            simp only [List.getElem_toArray, List.getElem_cons_zero, List.getElem_cons_succ, Act.put, List.setIfInBounds_toArray, List.set_cons_zero, List.set_cons_succ]
            refine wpAnyT_take (i := 6) (v := ?_) rfl (by kernel_rfl) (by kernel_rfl) (by kernel_rfl) (by kernel_rfl) (fun _ _ _ h => h) (Or.inl ⟨by rfl, ?_⟩) (by assumption) ?_
            rotate_left
            · (intro w hSw; (try dsimp only at hSw); simp only [List.getElem_toArray, List.getElem_cons_zero, List.getElem_cons_succ]; go_simp; (first | done | with_reducible rfl))
            simp only [List.getElem_toArray, List.getElem_cons_zero, List.getElem_cons_succ, Act.put, List.setIfInBounds_toArray, List.set_cons_zero, List.set_cons_succ]
            refine wpAnyT_take (i := 7) (v := ?_) rfl (by kernel_rfl) (by kernel_rfl) (by kernel_rfl) (by kernel_rfl) (fun _ _ _ h => h) (Or.inl ⟨by rfl, ?_⟩) (by assumption) ?_
            rotate_left
            · (intro w hSw; (try dsimp only at hSw); simp only [List.getElem_toArray, List.getElem_cons_zero, List.getElem_cons_succ]; go_simp; (first | done | with_reducible rfl))
            simp only [List.getElem_toArray, List.getElem_cons_zero, List.getElem_cons_succ, Act.put, List.setIfInBounds_toArray, List.set_cons_zero, List.set_cons_succ]
            refine wpAnyT_take (i := 8) (v := ?_) rfl (by kernel_rfl) (by kernel_rfl) (by kernel_rfl) (by kernel_rfl) (fun _ _ _ h => h) (Or.inl ⟨by rfl, ?_⟩) (by assumption) ?_
            rotate_left
            · (intro w hSw; (try dsimp only at hSw); simp only [List.getElem_toArray, List.getElem_cons_zero, List.getElem_cons_succ]; go_simp; (first | done | with_reducible rfl))
            simp only [List.getElem_toArray, List.getElem_cons_zero, List.getElem_cons_succ, Act.put, List.setIfInBounds_toArray, List.set_cons_zero, List.set_cons_succ]
            refine wpAnyT_take (i := 9) (v := ?_) rfl (by kernel_rfl) (by kernel_rfl) (by kernel_rfl) (by kernel_rfl) (fun _ _ _ h => h) (Or.inl ⟨by rfl, ?_⟩) (by assumption) ?_
            rotate_left
            · (intro w hSw; (try dsimp only at hSw); simp only [List.getElem_toArray, List.getElem_cons_zero, List.getElem_cons_succ]; go_simp; (first | done | with_reducible rfl))
            simp only [List.getElem_toArray, List.getElem_cons_zero, List.getElem_cons_succ, Act.put, List.setIfInBounds_toArray, List.set_cons_zero, List.set_cons_succ]
            refine wpAnyT_ready (rs := [5]) (by kernel_rfl) (by simp) ?_
            refine AllReadyT.cons rfl rfl (fun K hK => ?_) AllReadyT.nil
            go_simp
            go_at_call 74
            refine (HCH.out _ (Keeps.refl _ _).drew).mono ?_
            rintro e w5 ⟨v54, rfl, hr54, k5⟩
            have k5d := (Keeps.refl (fun _ => False) wr).drew.trans k5
            refine hK.out _ _ ?_ (fun hHeld => ?_)
            · exact HPS.out _ k5d
            clear hK K
            try dsimp only [Act.put, List.setIfInBounds_toArray, List.set_cons_zero, List.set_cons_succ]
            refine wpAnyT_ready (rs := [10]) (by kernel_rfl) (by simp) ?_
            refine AllReadyT.cons rfl rfl (fun K hK => ?_) AllReadyT.nil
            go_simp
            go_at_call 69
            refine (HH1.out _ _ hr54.refs).mono ?_
            rintro e w6 ⟨rfl, k6⟩
            have k6d := k5d.trans k6
            refine hK.out _ _ ?_ (fun hHeld => ?_)
            · exact HPS.out _ k6d
            clear hK K
            try dsimp only [Act.put, List.setIfInBounds_toArray, List.set_cons_zero, List.set_cons_succ]
            rcases B1 with _ | _
            · refine wpAnyT_take (i := 11) (v := ?_) rfl (by kernel_rfl) (by kernel_rfl) (by kernel_rfl) (by kernel_rfl) (fun _ _ _ h => h) (Or.inl ⟨by rfl, ?_⟩) (by assumption) ?_
              rotate_left
              · (intro w hSw; (try dsimp only at hSw); simp only [List.getElem_toArray, List.getElem_cons_zero, List.getElem_cons_succ]; go_simp; (first | done | with_reducible rfl))
              simp only [List.getElem_toArray, List.getElem_cons_zero, List.getElem_cons_succ, Act.put, List.setIfInBounds_toArray, List.set_cons_zero, List.set_cons_succ]
              refine wpAnyT_take (i := 12) (v := undef) rfl (by kernel_rfl) (by kernel_rfl) (by kernel_rfl) (by kernel_rfl) (fun _ _ _ h => h) (Or.inr ⟨by rfl, rfl⟩) (by assumption) ?_
              simp only [List.getElem_toArray, List.getElem_cons_zero, List.getElem_cons_succ, Act.put, List.setIfInBounds_toArray, List.set_cons_zero, List.set_cons_succ]
              refine wpAnyT_take (i := 13) (v := undef) rfl (by kernel_rfl) (by kernel_rfl) (by kernel_rfl) (by kernel_rfl) (fun _ _ _ h => h) (Or.inr ⟨by rfl, rfl⟩) (by assumption) ?_
              simp only [List.getElem_toArray, List.getElem_cons_zero, List.getElem_cons_succ, Act.put, List.setIfInBounds_toArray, List.set_cons_zero, List.set_cons_succ]
              refine wpAnyT_take (i := 14) (v := undef) rfl (by kernel_rfl) (by kernel_rfl) (by kernel_rfl) (by kernel_rfl) (fun _ _ _ h => h) (Or.inr ⟨by rfl, rfl⟩) (by assumption) ?_
              simp only [List.getElem_toArray, List.getElem_cons_zero, List.getElem_cons_succ, Act.put, List.setIfInBounds_toArray, List.set_cons_zero, List.set_cons_succ]
              refine wpAnyT_take (i := 15) (v := undef) rfl (by kernel_rfl) (by kernel_rfl) (by kernel_rfl) (by kernel_rfl) (fun _ _ _ h => h) (Or.inr ⟨by rfl, rfl⟩) (by assumption) ?_
              simp only [List.getElem_toArray, List.getElem_cons_zero, List.getElem_cons_succ, Act.put, List.setIfInBounds_toArray, List.set_cons_zero, List.set_cons_succ]
              refine wpAnyT_take (i := 16) (v := undef) rfl (by kernel_rfl) (by kernel_rfl) (by kernel_rfl) (by kernel_rfl) (fun _ _ _ h => h) (Or.inr ⟨by rfl, rfl⟩) (by assumption) ?_
              simp only [List.getElem_toArray, List.getElem_cons_zero, List.getElem_cons_succ, Act.put, List.setIfInBounds_toArray, List.set_cons_zero, List.set_cons_succ]
              refine wpAnyT_ready (rs := [17]) (by kernel_rfl) (by simp) ?_
              refine AllReadyT.cons rfl rfl (fun K hK => ?_) AllReadyT.nil
              go_simp
              refine hK.out _ _ ?_ (fun hHeld => ?_)
              · exact HPS.out _ k6d
              clear hK K
              try dsimp only [Act.put, List.setIfInBounds_toArray, List.set_cons_zero, List.set_cons_succ]
              refine wpAnyT_take (i := 18) (v := undef) rfl (by kernel_rfl) (by kernel_rfl) (by kernel_rfl) (by kernel_rfl) (fun _ _ _ h => h) (Or.inr ⟨by rfl, rfl⟩) (by assumption) ?_
              simp only [List.getElem_toArray, List.getElem_cons_zero, List.getElem_cons_succ, Act.put, List.setIfInBounds_toArray, List.set_cons_zero, List.set_cons_succ]
              refine wpAnyT_ready (rs := [19]) (by kernel_rfl) (by simp) ?_
              refine AllReadyT.last rfl (by kernel_rfl) (fun K hK => ?_)
              go_simp
              refine hK.out _ _ ?_
              refine NoPanic.normal ?_
              have HSAME := hid (show (tk.take (j + 1)).foldl (bk1 A.H y (d + 1)) q = q' by
                rw [HSN.out]; unfold bk1
                rw [if_neg (fun h => by have := HB.out.1; rw [HKS.out] at h; rw [decide_eq_true h.1] at this; cases this)])
              have HROn := hid (HRo.out.keeps k6d (fun _ _ _ _ h => h))
              have HRDn := hid (HRd.out.keeps k6d (fun _ _ _ _ h => h))
              have HKn := hid (HK.out.trans k6d)
              have HR13n := hid (HR13.out.keeps k6d (fun _ _ h => h))
              clear k5 k6 k5d k6d hr54 hS HRo HRd HK HR13 c0 c1 e0 e1
              go_wp2_with fail
              exact ⟨⟨j + 1, _, _, co, cd, n', by omega, by rw [HSAME.out]; exact hlen', by go_num, rfl, rfl, by rw [HSAME.out]; exact HROn, by rw [HSAME.out]; exact HRDn, HKn, HR13n, HNE⟩, by simp [intOf]; omega⟩
            · refine wpAnyT_take (i := 11) (v := ?_) rfl (by kernel_rfl) (by kernel_rfl) (by kernel_rfl) (by kernel_rfl) (fun _ _ _ h => h) (Or.inl ⟨by rfl, ?_⟩) (by assumption) ?_
              rotate_left
              · (intro w hSw; (try dsimp only at hSw); simp only [List.getElem_toArray, List.getElem_cons_zero, List.getElem_cons_succ]; go_simp; (first | done | with_reducible rfl))
              simp only [List.getElem_toArray, List.getElem_cons_zero, List.getElem_cons_succ, Act.put, List.setIfInBounds_toArray, List.set_cons_zero, List.set_cons_succ]
              refine wpAnyT_take (i := 12) (v := ?_) rfl (by kernel_rfl) (by kernel_rfl) (by kernel_rfl) (by kernel_rfl) (fun _ _ _ h => h) (Or.inl ⟨by rfl, ?_⟩) (by assumption) ?_
              rotate_left
              · (intro w hSw; (try dsimp only at hSw); simp only [List.getElem_toArray, List.getElem_cons_zero, List.getElem_cons_succ]; go_simp; (first | done | with_reducible rfl))
              simp only [List.getElem_toArray, List.getElem_cons_zero, List.getElem_cons_succ, Act.put, List.setIfInBounds_toArray, List.set_cons_zero, List.set_cons_succ]
              refine wpAnyT_take (i := 13) (v := ?_) rfl (by kernel_rfl) (by kernel_rfl) (by kernel_rfl) (by kernel_rfl) (fun _ _ _ h => h) (Or.inl ⟨by rfl, ?_⟩) (by assumption) ?_
              rotate_left
              · (intro w hSw; (try dsimp only at hSw); simp only [List.getElem_toArray, List.getElem_cons_zero, List.getElem_cons_succ]; go_simp; (first | done | with_reducible rfl))
              simp only [List.getElem_toArray, List.getElem_cons_zero, List.getElem_cons_succ, Act.put, List.setIfInBounds_toArray, List.set_cons_zero, List.set_cons_succ]
              refine wpAnyT_take (i := 14) (v := ?_) rfl (by kernel_rfl) (by kernel_rfl) (by kernel_rfl) (by kernel_rfl) (fun _ _ _ h => h) (Or.inl ⟨by rfl, ?_⟩) (by assumption) ?_
              rotate_left
              · (intro w hSw; (try dsimp only at hSw); simp only [List.getElem_toArray, List.getElem_cons_zero, List.getElem_cons_succ]; go_simp; (first | done | with_reducible rfl))
              simp only [List.getElem_toArray, List.getElem_cons_zero, List.getElem_cons_succ, Act.put, List.setIfInBounds_toArray, List.set_cons_zero, List.set_cons_succ]
              refine wpAnyT_take (i := 15) (v := ?_) rfl (by kernel_rfl) (by kernel_rfl) (by kernel_rfl) (by kernel_rfl) (fun _ _ _ h => h) (Or.inl ⟨by rfl, ?_⟩) (by assumption) ?_
              rotate_left
              · (intro w hSw; (try dsimp only at hSw); simp only [List.getElem_toArray, List.getElem_cons_zero, List.getElem_cons_succ]; go_simp; (first | done | with_reducible rfl))
              simp only [List.getElem_toArray, List.getElem_cons_zero, List.getElem_cons_succ, Act.put, List.setIfInBounds_toArray, List.set_cons_zero, List.set_cons_succ]
              refine wpAnyT_take (i := 16) (v := ?_) rfl (by kernel_rfl) (by kernel_rfl) (by kernel_rfl) (by kernel_rfl) (fun _ _ _ h => h) (Or.inl ⟨by rfl, ?_⟩) (by assumption) ?_
              rotate_left
              · (intro w hSw; (try dsimp only at hSw); simp only [List.getElem_toArray, List.getElem_cons_zero, List.getElem_cons_succ]; go_simp; (first | done | with_reducible rfl))
              simp only [List.getElem_toArray, List.getElem_cons_zero, List.getElem_cons_succ, Act.put, List.setIfInBounds_toArray, List.set_cons_zero, List.set_cons_succ]
              refine wpAnyT_ready (rs := [17]) (by kernel_rfl) (by simp) ?_
              refine AllReadyT.cons rfl rfl (fun K hK => ?_) AllReadyT.nil
              go_simp
              go_at_call 69
              refine (HH2.out _ k6d).mono ?_
              rintro e w7 ⟨rfl, k7⟩
              have k7d := k6d.trans k7
              refine hK.out _ _ ?_ (fun hHeld => ?_)
              · exact HPS.out _ k7d
              clear hK K
              try dsimp only [Act.put, List.setIfInBounds_toArray, List.set_cons_zero, List.set_cons_succ]
              refine wpAnyT_take (i := 18) (v := ?_) rfl (by kernel_rfl) (by kernel_rfl) (by kernel_rfl) (by kernel_rfl) (fun _ _ _ h => h) (Or.inl ⟨by rfl, ?_⟩) (by assumption) ?_
              rotate_left
              · (intro w hSw; (try dsimp only at hSw); simp only [List.getElem_toArray, List.getElem_cons_zero, List.getElem_cons_succ]; go_simp; (first | done | with_reducible rfl))
              simp only [List.getElem_toArray, List.getElem_cons_zero, List.getElem_cons_succ, Act.put, List.setIfInBounds_toArray, List.set_cons_zero, List.set_cons_succ]
              refine wpAnyT_ready (rs := [19]) (by kernel_rfl) (by simp) ?_
              refine AllReadyT.last rfl (by kernel_rfl) (fun K hK => ?_)
              go_simp
              refine hK.out _ _ ?_
              refine NoPanic.normal ?_
              have HROn := hid (HRo.out.keeps k7d (fun _ _ _ _ h => h))
              have HRDn := hid (HRd.out.keeps k7d (fun _ _ _ _ h => h))
              have HKn := hid (HK.out.trans k7d)
              have HR13n := hid (HR13.out.keeps k7d (fun _ _ h => h))
              obtain ⟨c0', c1', e0', e1'⟩ := HPS.out _ k7d
              have hsz7 := k7d.size
              clear k5 k6 k5d k6d k7 k7d hr54 hS HRo HRd HK HR13 c0 c1 e0 e1
              rcases B2 with _ | _
              · have HGROW := hid (show (tk.take (j + 1)).foldl (bk1 A.H y (d + 1)) q = q' ++ [(u, d + 1)] by
                  rw [HSN.out]; unfold bk1
                  rw [if_pos ⟨by rw [HKS.out]; exact of_decide_eq_true HB.out.1, of_decide_eq_false HB.out.2⟩])
                have hsz2 := HKn.out.size
                have ka : Keeps (fun _ => False) w7 (w7.alloc (.cells #[.int .i64 u.s, .int .u32 u.g] 41)) := (Keeps.refl _ _).alloc _
                have HVD := hid (HROn.out.keeps ka (fun _ _ _ _ h => h))
                have HVI := hid (HRDn.out.keeps ka (fun _ _ _ _ h => h))
                have HRO := hid (refs_one (x := u) (alloc_new (w := w7) (o := .cells #[.int .i64 u.s, .int .u32 u.g] 41)))
                have HKA := hid (HKn.out.trans ka)
                have HR13a := hid (HR13n.out.keeps ka (fun _ _ h => h))
                have hnsl : q'.ns.length = n' := by rw [Be.ns_len]; exact hlen'
                have hdsl : q'.ds.length = n' := by rw [Be.ds_len]; exact hlen'
                have HNS := hid hnsl; have HDS := hid hdsl
                clear ka hnsl hdsl
                go_wp2_with (first
                  | (at_builtin; refine wpList_append_refs _ rfl _ _ rfl w2.heap.size _ _ q'.ns [u] rfl rfl HVD.out HRO.out (by rw [List.length_singleton, HNS.out]; omega) (by rw [World.size_alloc]; omega) ?_; intro v8 w8 hr8 hk8 ho8; obtain ⟨p8, c8, rfl⟩ := hr8.refs.slice; have HVI8 := hid (HVI.out.keeps hk8 (fun z _ _ h1 h2 => irow_ne HVI.out HVD.out z h1 h2)); obtain ⟨gd, eg, lgd, d0⟩ := HVI8.out.ints.cell.2 i d (Be.ds_at HYI.out); subst eg; have HVI9 := hid (HVI8.out.keeps ((Keeps.refl (fun _ => False) w8).alloc (.cells #[.int .i64 ((d : Int) + 1)] 3)) (fun _ _ _ _ h => h)))
                  | (at_builtin; refine wpList_append_ints _ rfl _ _ rfl w2.heap.size _ _ q'.ds [(d : Int) + 1] rfl rfl HVI9.out (ints_one alloc_new) (by rw [List.length_singleton, HDS.out]; omega) (by rw [World.size_alloc]; have := hk8.size; rw [World.size_alloc] at this; omega) ?_; intro v9 w9 hr9 hk9 ho9; obtain ⟨p9, c9, rfl⟩ := hr9.ints.slice)
                  | fail)
                have e8 : (q'.ns ++ [u]).length = n' + 1 := by rw [List.length_append, HNS.out]; rfl
                have e9 : (q'.ds ++ [(d : Int) + 1]).length = n' + 1 := by rw [List.length_append, HDS.out]; rfl
                rw [e8] at hr8 ho8
                rw [e9] at hr9
                have ka8 : Keeps (fun _ => False) w8 (w8.alloc (.cells #[.int .i64 ((d : Int) + 1)] 3)) := (Keeps.refl _ _).alloc _
                have hr8a := hr8.keeps ka8 (fun _ _ _ _ h => h)
                have hr8b := hr8a.keeps hk9 (fun z _ _ h1 h2 => irow_ne HVI9.out hr8a z h2 h1)
                have h13b := ((HR13a.out.keeps hk8 (fun z h1 h2 => HNE.out z h2 h1)).keeps ka8 (fun _ _ h => h))
                have h13c := h13b.keeps hk9 (fun z h1 h2 => irow_refs_ne HVI9.out h13b z h2 h1)
                have hlo := HVD.out.lt
                have hlo9 := HVI9.out.lt
                have kk := ((HKA.out.trans' hk8 (fun _ _ h => h) (fun y hy hz => by have := (hlo y hz).1; omega)).alloc (.cells #[.int .i64 ((d : Int) + 1)] 3)).trans' hk9 (U := fun _ => False) (fun _ _ h => h) (fun y hy hz => by have := (hlo9 y hz).1; omega)
                refine ⟨⟨j + 1, p8, p9, c8, c9, n' + 1, by omega, by rw [HGROW.out, List.length_append, hlen']; rfl, by go_num, by rw [HNS.out], by rw [HDS.out], by rw [HGROW.out, Be.ns_snoc]; exact hid hr8b, by rw [HGROW.out, Be.ds_snoc]; exact hid hr9, hid kk, hid h13c, hid (fun z h1 h2 => ?_)⟩, by simp [intOf]; omega⟩
                rcases ho8 with ho8 | ho8
                · exact HNE.out z (ho8.symm.trans h1) h2
                · rw [ho8] at h1
                  have h3 := Option.some.inj h1
                  have h4 : some g13 = some z := h2
                  have h5 := Option.some.inj h4
                  simp only [World.size_alloc] at h3
                  omega
              · have HSAME := hid (show (tk.take (j + 1)).foldl (bk1 A.H y (d + 1)) q = q' by
                  rw [HSN.out]; unfold bk1
                  rw [if_neg (fun h => h.2 (of_decide_eq_true HB.out.2))])
                go_wp2_with fail
                exact ⟨⟨j + 1, _, _, co, cd, n', by omega, by rw [HSAME.out]; exact hlen', by go_num, rfl, rfl, by rw [HSAME.out]; exact HROn, by rw [HSAME.out]; exact HRDn, HKn, HR13n, HNE⟩, by simp [intOf]; omega⟩
          · obtain rfl : j = tk.length := by omega
            have hlj' : ¬ (tk.length : Int) < (tk.length : Int) := by omega
            have htt : tk.take tk.length = tk := List.take_length
            rw [htt] at HRo HRd hlen'
            rw [← HNX.out] at HRo HRd hlen'
            obtain ⟨t, hpre, _⟩ := bk1_pre A.H y (d + 1) tk q
            have hnn : n ≤ n' := by rw [← hlen', HNX.out, hpre, List.length_append]; omega
            clear hpre
            go_wp2_with fail
            exact ⟨⟨i + 1, po, pd, co, cd, n', by omega, hlen', by go_num, rfl, rfl, HRo, HRd, HK⟩, by simp [intOf]; omega⟩
      · obtain rfl : i = n := by omega
        have hlt' : ¬ (i : Int) < (i : Int) := by omega
        have HF := hid ((HBK.out i).far (by omega))
        have HOO := hid (HOR.out _ (K2.out.trans HK.out))
        have HBL := hid (fun p hp => bk_le A.H r i p hp)
        obtain ⟨q, hqe⟩ : ∃ q, bk A.H r i = q := ⟨_, rfl⟩
        rw [hqe] at HRo HRd HF hlen HBL
        clear hqe
        go_wp2_with fail
        refine HOO.out.mono ?_
        rintro e w3 ⟨v85, rfl, hr85, k3⟩
        have HK3 := hid (HK.out.trans k3)
        have HRo3 := hid (HRo.out.keeps k3 (fun _ _ _ _ h => h))
        have HRd3 := hid (HRd.out.keeps k3 (fun _ _ _ _ h => h))
        have HR85 := hid hr85.refs
        clear k3 hr85 HRo HRd HK
        have hsl := srtd_len hn2 (A.glL ++ A.stks A.many)
        obtain ⟨xo, dx, hxo, hxd⟩ := far_orig (l := A.orig) orig_there HF.out HM.out
        have hmo : ∀ z, z ∈ srtd A.H.T (A.glL ++ A.stks A.many) ↔ z ∈ A.orig := fun z => by rw [mem_srtd]; unfold Ar.orig; rw [mem_hres]
        obtain ⟨k0, y0, e0, hk0, hqk, hgd⟩ := gdy_top HF.out (srtd_bySlot _ _) ((hmo _).2 hxo) hxd
        have hk0l : k0 < i := by have := (List.getElem?_eq_some_iff.1 hqk).1; omega
        have he0 : e0 ≤ i := HBL.out _ (List.mem_of_getElem? hqk)
        have HNR := hid (nearest19 v85 (.slice po i co) (.slice pd i cd) _ q (-1) w3 HR85.out HRo3.out.refs HRd3.out.ints (by omega) (by omega) (by omega))
        rw [hk0] at HNR
        have HGD := hid (hgd.congr hmo)
        have HQK := hid hqk
        clear hxo hxd hmo hk0 hgd hqk hsl
        go_wp2_with fail
        refine HNR.out.mono ?_
        rintro e w4 ⟨rfl, k4⟩
        have HK4 := hid (HK3.out.trans k4)
        have HRo4 := hid (HRo3.out.keeps k4 (fun _ _ _ _ h => h))
        have HRd4 := hid (HRd3.out.keeps k4 (fun _ _ _ _ h => h))
        clear k4 HNR HRo3 HRd3
        obtain ⟨g1, e1, _, _, _⟩ := HRo4.out.refs.cell.2 k0 y0 (Be.ns_at HQK.out)
        obtain ⟨g2, e2, _, _⟩ := HRd4.out.ints.cell.2 k0 e0 (Be.ds_at HQK.out)
        subst e1 e2
        have HCE := hid (fun W (hk : Keeps (fun _ => False) w4 W) (k : Nat) (x : Rf) (d : Nat) (hx : q[k]? = some (x, d)) => (show W.cell? ⟨g1, k * 2, none⟩ = some (.int .i64 x.s) ∧ W.cell? ⟨g1, k * 2 + 1, none⟩ = some (.int .u32 x.g) ∧ W.cell? ⟨g2, k, none⟩ = some (.int .i64 d) from by
          obtain ⟨g1', e1, _, c0, c1⟩ := (HRo4.out.keeps hk (fun _ _ _ _ h => h)).refs.cell.2 k x (Be.ns_at hx)
          obtain ⟨g2', e2, _, c2⟩ := (HRd4.out.keeps hk (fun _ _ _ _ h => h)).ints.cell.2 k d (Be.ds_at hx)
          obtain rfl : g1 = g1' := by injection e1 with e1; injection e1
          obtain rfl : g2 = g2' := by injection e2 with e2; injection e2
          exact ⟨c0, c1, c2⟩))
        obtain ⟨z0, z1, _⟩ := HCE.out w4 (Keeps.refl _ _) k0 y0 e0 HQK.out
        have hk0i : (k0 : Int) < (i : Int) := by omega
        have hk00 : (0 : Int) ≤ (k0 : Int) := by omega
        go_wp2_with fail
        go_loopw [15, 16] (fun s15 s16 wr => ∃ (u : List Rf) (x : Rf) (d k : Nat) (p16 : Option Addr) (c16 : Nat), s15 = .int .i64 k ∧ s16 = .slice p16 u.length c16 ∧ u.length + d = e0 + 1 ∧ k < i ∧ Hid (Gdy A.H q A.orig u x d) ∧ Hid (q[k]? = some (x, d)) ∧ Hid (Row wr w4.heap.size (.slice p16 u.length c16) u) ∧ Hid (Keeps (fun _ => False) w4 wr)) (fun s15 _ _ => farB q (intOf s15))
        case atStart => exact ⟨[y0], y0, e0, k0, _, 1, rfl, rfl, by simp; omega, hk0l, HGD, HQK, hid (row_one alloc_new (Nat.le_refl _)), hid ((Keeps.refl _ _).alloc _)⟩
        case round =>
          clear z0 z1 hk0i hk00 HGD HQK
          obtain ⟨u, x, d, k, p16, c16, rfl, rfl, hud, hki, HG, HX, HR, HK5⟩ := hrel
          obtain ⟨b0, b1, _, bl⟩ := cells2 (block_keep HQ2.out (HK4.out.trans HK5.out) (fun h => h))
          obtain ⟨c0, c1, c2⟩ := HCE.out wr HK5.out k x d HX.out
          have hk0 : (0 : Int) ≤ (k : Int) := by omega
          have hki' : (k : Int) < (i : Int) := by omega
          have hql := fun W => neq_ref W x.s x.g r.s r.g
          have hzero := HF.out.zero (List.mem_of_getElem? HX.out)
          by_cases hd : d = 0
          · have hxr := hzero.1 hd
            have hz : (x.s == r.s && x.g == r.g) = true := by rw [hxr]; simp
            rw [hz] at hql
            have hg0 : Gdy A.H q A.orig u r 0 := by have := HG.out; rw [hxr, hd] at this; exact this
            have HW := hid (show u = A.wayL r from (gdy_is orig_there HF.out hg0).2)
            have HRn := hid ((HR.out.keeps (Keeps.refl (fun _ => False) wr).drew (fun _ _ _ _ h => h)).mono (Nat.le_trans K2.out.size HK4.out.size))
            have HKn := hid ((K2.out.trans (HK4.out.trans HK5.out)).drew)
            clear hzero hxr hz hg0 HG HX HR HK5 hud hd
            go_wp2_with fail
            go_region
            go_wp2_with fail
            go_ret3
            exact ⟨_, rfl, by rw [← HW.out]; exact HRn.out, HKn.out⟩
          · obtain ⟨d', rfl⟩ : ∃ d', d = d' + 1 := ⟨d - 1, by omega⟩
            have hz : (x.s == r.s && x.g == r.g) = false := by
              rcases hb : (x.s == r.s && x.g == r.g) with _ | _
              · rfl
              · refine absurd (hzero.2 ?_) hd
                obtain ⟨xs, xg⟩ := x
                obtain ⟨rs, rg⟩ := r
                simp at hb
                rw [hb.1, hb.2]
            rw [hz] at hql
            obtain ⟨k', y', hnr, hqk', hgd'⟩ := gdy_next HF.out HG.out (List.mem_of_getElem? HX.out)
            have hk'i : k' < i := by have := (List.getElem?_eq_some_iff.1 hqk').1; omega
            have hkl := kids_len A.H x
            have hsl := srtd_len hn2 (kids A.H x)
            have HCH := hid (fun W (hk : Keeps (fun _ => False) wr W) => children19 x (H14.out.keeps (HK4.out.trans (HK5.out.trans hk)) (fun h => h) (fun h => h)))
            have HSO := hid (fun W v (hk : Keeps (fun _ => False) wr W) (hv : Refs W v (kids A.H x)) => sorted19 v (kids A.H x) (H14.out.keeps (HK4.out.trans (HK5.out.trans hk)) (fun h => h) (fun h => h)) hv (by omega))
            have HNE := hid (fun W v (hk : Keeps (fun _ => False) wr W) (hv : Refs W v (srtd A.H.T (kids A.H x))) => nearest19 v (.slice (some ⟨g1, 0, none⟩) i co) (.slice (some ⟨g2, 0, none⟩) i cd) (srtd A.H.T (kids A.H x)) q (d' : Nat) W hv ((HRo4.out.keeps (HK5.out.trans hk) (fun _ _ _ _ h => h)).refs) ((HRd4.out.keeps (HK5.out.trans hk) (fun _ _ _ _ h => h)).ints) (by omega) (by omega) (by omega))
            rw [hnr] at HNE
            have HGN := hid hgd'; have HXN := hid hqk'
            obtain ⟨D, hD⟩ : ∃ D : Int, ((d' + 1 : Nat) : Int) = D := ⟨_, rfl⟩
            have hdw : IntKind.i64.wrap (D - 1) = (d' : Int) := by rw [← hD, show ((d' + 1 : Nat) : Int) - 1 = (d' : Int) by omega]; exact IntWalk.i64_in _ (by omega)
            have hfar : farB q (k : Int) = d' + 1 := by unfold farB; rw [Int.toNat_natCast, HX.out]
            have hfar' : farB q (k' : Int) = d' := by unfold farB; rw [Int.toNat_natCast, HXN.out]
            have HFR := hid (And.intro hfar hfar')
            have HPS := hid (fun W (hk : Keeps (fun _ => False) wr W) => show W.cell? ⟨g1, k * 2, none⟩ = some (.int .i64 x.s) ∧ W.cell? ⟨g1, k * 2 + 1, none⟩ = some (.int .u32 x.g) ∧ W.cell? ⟨g2, k, none⟩ = some (.int .i64 D) from by
              have := HCE.out W (HK5.out.trans hk) k x (d' + 1) HX.out
              rw [hD] at this
              exact this)
            rw [hD] at c2
            clear hzero hz hd hnr hqk' hgd' hD HG HX hfar hfar'
            go_wp2_with fail
            go_region
            go_upto_region 20 with (fail)
            have kd : Keeps (fun _ => False) wr wr.drew.drew := (Keeps.refl _ _).drew.drew
            refine wp_region_last 16 (fun W => W.cell? ⟨g1, k * 2, none⟩ = some (.int .i64 x.s) ∧ W.cell? ⟨g1, k * 2 + 1, none⟩ = some (.int .u32 x.g) ∧ W.cell? ⟨g2, k, none⟩ = some (.int .i64 D)) (by kernel_rfl) (HPS.out _ kd) (fun hS => ?_)
            refine wpAnyT_take (i := 0) (v := ?_) rfl (by kernel_rfl) (by kernel_rfl) (by kernel_rfl) (by kernel_rfl) (fun _ _ _ h => h) (Or.inl ⟨by rfl, ?_⟩) (by assumption) ?_
            rotate_left
            · (intro w hSw; (try dsimp only at hSw); simp only [List.getElem_toArray, List.getElem_cons_zero, List.getElem_cons_succ]; go_simp; (first | done | with_reducible rfl))
            simp only [List.getElem_toArray, List.getElem_cons_zero, List.getElem_cons_succ, Act.put, List.setIfInBounds_toArray, List.set_cons_zero, List.set_cons_succ]
            refine wpAnyT_take (i := 1) (v := ?_) rfl (by kernel_rfl) (by kernel_rfl) (by kernel_rfl) (by kernel_rfl) (fun _ _ _ h => h) (Or.inl ⟨by rfl, ?_⟩) (by assumption) ?_
            rotate_left
            · (intro w hSw; (try dsimp only at hSw); simp only [List.getElem_toArray, List.getElem_cons_zero, List.getElem_cons_succ]; go_simp; (first | done | with_reducible rfl))
            simp only [List.getElem_toArray, List.getElem_cons_zero, List.getElem_cons_succ, Act.put, List.setIfInBounds_toArray, List.set_cons_zero, List.set_cons_succ]
            refine wpAnyT_take (i := 2) (v := ?_) rfl (by kernel_rfl) (by kernel_rfl) (by kernel_rfl) (by kernel_rfl) (fun _ _ _ h => h) (Or.inl ⟨by rfl, ?_⟩) (by assumption) ?_
            rotate_left
            · (intro w hSw; (try dsimp only at hSw); simp only [List.getElem_toArray, List.getElem_cons_zero, List.getElem_cons_succ]; go_simp; (first | done | with_reducible rfl))
            simp only [List.getElem_toArray, List.getElem_cons_zero, List.getElem_cons_succ, Act.put, List.setIfInBounds_toArray, List.set_cons_zero, List.set_cons_succ]
            refine wpAnyT_take (i := 3) (v := ?_) rfl (by kernel_rfl) (by kernel_rfl) (by kernel_rfl) (by kernel_rfl) (fun _ _ _ h => h) (Or.inl ⟨by rfl, ?_⟩) (by assumption) ?_
            rotate_left
            · (intro w hSw; (try dsimp only at hSw); simp only [List.getElem_toArray, List.getElem_cons_zero, List.getElem_cons_succ]; go_simp; (first | done | with_reducible rfl))
            simp only [List.getElem_toArray, List.getElem_cons_zero, List.getElem_cons_succ, Act.put, List.setIfInBounds_toArray, List.set_cons_zero, List.set_cons_succ]
            refine wpAnyT_take (i := 4) (v := ?_) rfl (by kernel_rfl) (by kernel_rfl) (by kernel_rfl) (by kernel_rfl) (fun _ _ _ h => h) (Or.inl ⟨by rfl, ?_⟩) (by assumption) ?_
            rotate_left
            · (intro w hSw; (try dsimp only at hSw); simp only [List.getElem_toArray, List.getElem_cons_zero, List.getElem_cons_succ]; go_simp; (first | done | with_reducible rfl))
            simp only [List.getElem_toArray, List.getElem_cons_zero, List.getElem_cons_succ, Act.put, List.setIfInBounds_toArray, List.set_cons_zero, List.set_cons_succ]
            refine wpAnyT_take (i := 5) (v := ?_) rfl (by kernel_rfl) (by kernel_rfl) (by kernel_rfl) (by kernel_rfl) (fun _ _ _ h => h) (Or.inl ⟨by rfl, ?_⟩) (by assumption) ?_
            rotate_left
            · (intro w hSw; (try dsimp only at hSw); simp only [List.getElem_toArray, List.getElem_cons_zero, List.getElem_cons_succ]; go_simp; (first | done | with_reducible rfl))
            simp only [List.getElem_toArray, List.getElem_cons_zero, List.getElem_cons_succ, Act.put, List.setIfInBounds_toArray, List.set_cons_zero, List.set_cons_succ]
            refine wpAnyT_take (i := 8) (v := ?_) rfl (by kernel_rfl) (by kernel_rfl) (by kernel_rfl) (by kernel_rfl) (fun _ _ _ h => h) (Or.inl ⟨by rfl, ?_⟩) (by assumption) ?_
            rotate_left
            · (intro w hSw; (try dsimp only at hSw); simp only [List.getElem_toArray, List.getElem_cons_zero, List.getElem_cons_succ]; go_simp; (first | done | with_reducible rfl))
            simp only [List.getElem_toArray, List.getElem_cons_zero, List.getElem_cons_succ, Act.put, List.setIfInBounds_toArray, List.set_cons_zero, List.set_cons_succ]
            refine wpAnyT_take (i := 9) (v := ?_) rfl (by kernel_rfl) (by kernel_rfl) (by kernel_rfl) (by kernel_rfl) (fun _ _ _ h => h) (Or.inl ⟨by rfl, ?_⟩) (by assumption) ?_
            rotate_left
            · (intro w hSw; (try dsimp only at hSw); simp only [List.getElem_toArray, List.getElem_cons_zero, List.getElem_cons_succ]; go_simp; (first | done | with_reducible rfl))
            simp only [List.getElem_toArray, List.getElem_cons_zero, List.getElem_cons_succ, Act.put, List.setIfInBounds_toArray, List.set_cons_zero, List.set_cons_succ]
            refine wpAnyT_take (i := 10) (v := ?_) rfl (by kernel_rfl) (by kernel_rfl) (by kernel_rfl) (by kernel_rfl) (fun _ _ _ h => h) (Or.inl ⟨by rfl, ?_⟩) (by assumption) ?_
            rotate_left
            · (intro w hSw; (try dsimp only at hSw); simp only [List.getElem_toArray, List.getElem_cons_zero, List.getElem_cons_succ]; go_simp; (first | done | with_reducible rfl))
            simp only [List.getElem_toArray, List.getElem_cons_zero, List.getElem_cons_succ, Act.put, List.setIfInBounds_toArray, List.set_cons_zero, List.set_cons_succ]
            refine wpAnyT_take (i := 11) (v := ?_) rfl (by kernel_rfl) (by kernel_rfl) (by kernel_rfl) (by kernel_rfl) (fun _ _ _ h => h) (Or.inl ⟨by rfl, ?_⟩) (by assumption) ?_
            rotate_left
            · (intro w hSw; (try dsimp only at hSw); simp only [List.getElem_toArray, List.getElem_cons_zero, List.getElem_cons_succ]; go_simp; (first | done | with_reducible rfl))
            simp only [List.getElem_toArray, List.getElem_cons_zero, List.getElem_cons_succ, Act.put, List.setIfInBounds_toArray, List.set_cons_zero, List.set_cons_succ]
            refine wpAnyT_take (i := 12) (v := ?_) rfl (by kernel_rfl) (by kernel_rfl) (by kernel_rfl) (by kernel_rfl) (fun _ _ _ h => h) (Or.inl ⟨by rfl, ?_⟩) (by assumption) ?_
            rotate_left
            · (intro w hSw; (try dsimp only at hSw); simp only [List.getElem_toArray, List.getElem_cons_zero, List.getElem_cons_succ]; go_simp; (first | done | with_reducible rfl))
            simp only [List.getElem_toArray, List.getElem_cons_zero, List.getElem_cons_succ, Act.put, List.setIfInBounds_toArray, List.set_cons_zero, List.set_cons_succ]
            refine wpAnyT_take (i := 13) (v := ?_) rfl (by kernel_rfl) (by kernel_rfl) (by kernel_rfl) (by kernel_rfl) (fun _ _ _ h => h) (Or.inl ⟨by rfl, ?_⟩) (by assumption) ?_
            rotate_left
            · (intro w hSw; (try dsimp only at hSw); simp only [List.getElem_toArray, List.getElem_cons_zero, List.getElem_cons_succ]; go_simp; (first | done | with_reducible rfl))
            simp only [List.getElem_toArray, List.getElem_cons_zero, List.getElem_cons_succ, Act.put, List.setIfInBounds_toArray, List.set_cons_zero, List.set_cons_succ]
            refine wpAnyT_take (i := 14) (v := ?_) rfl (by kernel_rfl) (by kernel_rfl) (by kernel_rfl) (by kernel_rfl) (fun _ _ _ h => h) (Or.inl ⟨by rfl, ?_⟩) (by assumption) ?_
            rotate_left
            · (intro w hSw; (try dsimp only at hSw); simp only [List.getElem_toArray, List.getElem_cons_zero, List.getElem_cons_succ]; go_simp; (first | done | with_reducible rfl))
            simp only [List.getElem_toArray, List.getElem_cons_zero, List.getElem_cons_succ, Act.put, List.setIfInBounds_toArray, List.set_cons_zero, List.set_cons_succ]
            refine wpAnyT_ready (rs := [6]) (by kernel_rfl) (by simp) ?_
            refine AllReadyT.cons rfl rfl (fun K hK => ?_) AllReadyT.nil
            go_simp
            go_at_call 74
            refine (HCH.out _ kd).mono ?_
            rintro e w5 ⟨v106, rfl, hr106, k5⟩
            have k5d := kd.trans k5
            refine hK.out _ _ ?_ (fun hHeld => ?_)
            · exact HPS.out _ k5d
            clear hK K
            try dsimp only [Act.put, List.setIfInBounds_toArray, List.set_cons_zero, List.set_cons_succ]
            refine wpAnyT_ready (rs := [7]) (by kernel_rfl) (by simp) ?_
            refine AllReadyT.cons rfl rfl (fun K hK => ?_) AllReadyT.nil
            go_simp
            go_at_call 62
            refine (HSO.out _ _ k5d hr106.refs).mono ?_
            rintro e w6 ⟨v107, rfl, hr107, k6⟩
            have k6d := k5d.trans k6
            refine hK.out _ _ ?_ (fun hHeld => ?_)
            · exact HPS.out _ k6d
            clear hK K
            try dsimp only [Act.put, List.setIfInBounds_toArray, List.set_cons_zero, List.set_cons_succ]
            refine wpAnyT_ready (rs := [15]) (by kernel_rfl) (by simp) ?_
            refine AllReadyT.cons rfl rfl (fun K hK => ?_) AllReadyT.nil
            go_simp
            go_at_call 75
            refine (HNE.out _ _ k6d hr107.refs).mono ?_
            rintro e w7 ⟨rfl, k7⟩
            have k7d := k6d.trans k7
            refine hK.out _ _ ?_ (fun hHeld => ?_)
            · exact HPS.out _ k7d
            clear hK K
            try dsimp only [Act.put, List.setIfInBounds_toArray, List.set_cons_zero, List.set_cons_succ]
            refine wpAnyT_ready (rs := [16]) (by kernel_rfl) (by simp) ?_
            refine AllReadyT.last rfl (by kernel_rfl) (fun K hK => ?_)
            go_simp
            refine hK.out _ _ ?_
            refine NoPanic.normal ?_
            have HRn := hid (HR.out.keeps k7d (fun _ _ _ _ h => h))
            have HKn := hid (HK5.out.trans k7d)
            obtain ⟨c0', c1', _⟩ := HCE.out w7 HKn.out k' y' d' HXN.out
            have hk00 : (0 : Int) ≤ (k' : Int) := by omega
            have hk'i' : (k' : Int) < (i : Int) := by omega
            clear k5 k6 k5d k6d k7 k7d hr106 hr107 hS HR HK5 c0 c1 c2 b0 b1 hdw hql HCH HSO HNE HPS
            have hsz4 := HKn.out.size
            have ka : Keeps (fun _ => False) w7 (w7.alloc (.cells #[.int .i64 y'.s, .int .u32 y'.g] 41)) := (Keeps.refl _ _).alloc _
            have HVD := hid (HRn.out.keeps ka (fun _ _ _ _ h => h))
            have HRO := hid (refs_one (x := y') (alloc_new (w := w7) (o := .cells #[.int .i64 y'.s, .int .u32 y'.g] 41)))
            have HKA := hid (HKn.out.trans ka)
            clear ka
            go_wp2_with (first
              | (at_builtin; refine wpList_append_refs _ rfl _ _ rfl w4.heap.size _ _ u [y'] rfl rfl HVD.out HRO.out (by rw [List.length_singleton]; omega) (by rw [World.size_alloc]; omega) ?_; intro v8 w8 hr8 hk8 ho8; obtain ⟨p8, c8, rfl⟩ := hr8.refs.slice)
              | fail)
            have hlt8 := HVD.out.lt
            refine ⟨⟨u ++ [y'], y', d', k', p8, c8, rfl, by rw [List.length_append]; rfl, by rw [List.length_append, List.length_singleton]; omega, hk'i, HGN, HXN, hid hr8, hid (HKA.out.trans' hk8 (fun _ _ h => h) (fun y hy hz => by have := (hlt8 y hz).1; omega))⟩, ?_⟩
            show farB q (k' : Int) < farB q (k : Int)
            rw [HFR.out.1, HFR.out.2]
            omega
  · rw [decide_eq_false hm, hno hm]
    rw [decide_eq_false hm] at HIS
    obtain ⟨E, hE⟩ : ∃ E, ckV A.H.T r.s r.g = E := ⟨_, rfl⟩
    rw [hE] at HIS ⊢
    clear h hno hyes hm hE
    by_cases h0 : E = 0
    all_goals
      first
        | subst h0
        | have hne : (E != 0) = true := by simpa using h0
      go_enter Tryz.func25, Tryz.ntmps25
      go_wp2_with fail
      refine (HIS.out _ ((Keeps.refl _ _).alloc _)).mono ?_
      rintro e w1 ⟨rfl, k1⟩
      have K1 := hid (((Keeps.refl (fun _ => False) w).alloc (.cells #[.int .i64 r.s, .int .u32 r.g] 41)).trans k1)
      clear k1
      go_wp2_with fail
      go_ret3
      exact ⟨_, rfl, Row.nil _ _, K1.out⟩
end

end Go.Proofs.YtkpnmajocgcccaaGreat
