/- estrayref15, 20, 21, 22, 24, 25, 26: new collectors of the document, and what they refuse. -/
import Derived.Test.YtnjgkhgdgpahfaaGreatRgI
namespace Go.Proofs.YtnjgkhgdgpahfaaGreat
open Go.RowKit
attribute [local go_sem] Oper.semAt_some
set_option linter.unusedVariables false
set_option linter.unusedSimpArgs false

set_option maxRecDepth 100000 in
theorem bool_info : ∃ i, Tryz.prog.info? 4 = some i ∧ i.zero = some (.bool false) ∧ i.size = 1 ∧ i.bytes = 1 := by
  refine ⟨_, rfl, ?_, ?_, ?_⟩ <;> kernel_rfl
theorem made_bools {m : Nat} (h1 : 1 ≤ m) (h4 : m ≤ 4) : ∃ C : Array Value, (∀ W : World, (Instr.makeSlice 204 (.int .i64 m) (.int .i64 m)).run Tryz.prog W = .ok (.slice (some ⟨W.heap.size, 0, none⟩) m m) (W.alloc (.cells C 4))) ∧ ∀ j, j < m → C[j]? = some (.bool false) := by
  obtain ⟨ri, hi1, hi2, hi3, hi4⟩ := bool_info
  refine ⟨madeCells (Value.bool false).cells (m * 1), fun W => ?_, ?_⟩
  · have := run_makeSlice (P := Tryz.prog) W 204 4 ri (.bool false) Tryz.underlying204 hi1 hi2 .i64 .i64 m m (by omega) (by omega) (by rw [hi3, Int.toNat_natCast]; omega) (by rw [hi4]; omega) (by omega)
    rw [hi3, Int.toNat_natCast] at this
    exact this
  · intro j hj
    rw [← Array.getElem?_toList]
    show (madeCells #[Value.bool false] (m * 1)).toList[j]? = _
    rw [toList_madeCells_one, List.getElem?_replicate, if_pos (by omega)]
theorem made_ints {m : Nat} (h1 : 1 ≤ m) (h4 : m ≤ 256) : ∃ C : Array Value, (∀ W : World, (Instr.makeSlice 207 (.int .i64 m) (.int .i64 m)).run Tryz.prog W = .ok (.slice (some ⟨W.heap.size, 0, none⟩) m m) (W.alloc (.cells C 3))) ∧ ∀ j, j < m → C[j]? = some (.int .i64 0) := by
  obtain ⟨ri, hi1, hi2, hi3, hi4⟩ := int_info
  refine ⟨madeCells (Value.int .i64 0).cells (m * 1), fun W => ?_, ?_⟩
  · have := run_makeSlice (P := Tryz.prog) W 207 3 ri (.int .i64 0) Tryz.underlying207 hi1 hi2 .i64 .i64 m m (by omega) (by omega) (by rw [hi3, Int.toNat_natCast]; omega) (by rw [hi4]; omega) (by omega)
    rw [hi3, Int.toNat_natCast] at this
    exact this
  · intro j hj
    rw [← Array.getElem?_toList]
    show (madeCells #[Value.int .i64 0] (m * 1)).toList[j]? = _
    rw [toList_madeCells_one, List.getElem?_replicate, if_pos (by omega)]
theorem cells4f {w : World} {b : Nat} {v0 v1 v2 v3 : Value} {t : TypeId} (h : w.heap[b]? = some (.cells #[v0, v1, v2, v3] t)) :
    w.cell? ⟨b, 0, none⟩ = some v0 ∧ w.cell? ⟨b, 1, none⟩ = some v1 ∧ w.cell? ⟨b, 2, none⟩ = some v2 ∧ w.cell? ⟨b, 3, none⟩ = some v3 ∧ (∀ i, w.frozen? ⟨b, i, none⟩ = false) ∧ b < w.heap.size :=
  ⟨cell_at h rfl, cell_at h rfl, cell_at h rfl, cell_at h rfl, frozen_block h, lt_block h⟩
theorem cells7f {w : World} {b : Nat} {v0 v1 v2 v3 v4 v5 v6 : Value} {t : TypeId} (h : w.heap[b]? = some (.cells #[v0, v1, v2, v3, v4, v5, v6] t)) :
    w.cell? ⟨b, 0, none⟩ = some v0 ∧ w.cell? ⟨b, 1, none⟩ = some v1 ∧ w.cell? ⟨b, 2, none⟩ = some v2 ∧ w.cell? ⟨b, 3, none⟩ = some v3 ∧ w.cell? ⟨b, 4, none⟩ = some v4 ∧ w.cell? ⟨b, 5, none⟩ = some v5 ∧ w.cell? ⟨b, 6, none⟩ = some v6 ∧ (∀ i, w.frozen? ⟨b, i, none⟩ = false) ∧ b < w.heap.size :=
  ⟨cell_at h rfl, cell_at h rfl, cell_at h rfl, cell_at h rfl, cell_at h rfl, cell_at h rfl, cell_at h rfl, frozen_block h, lt_block h⟩
theorem cells8f {w : World} {b : Nat} {v0 v1 v2 v3 v4 v5 v6 v7 : Value} {t : TypeId} (h : w.heap[b]? = some (.cells #[v0, v1, v2, v3, v4, v5, v6, v7] t)) :
    w.cell? ⟨b, 0, none⟩ = some v0 ∧ w.cell? ⟨b, 1, none⟩ = some v1 ∧ w.cell? ⟨b, 2, none⟩ = some v2 ∧ w.cell? ⟨b, 3, none⟩ = some v3 ∧ w.cell? ⟨b, 4, none⟩ = some v4 ∧ w.cell? ⟨b, 5, none⟩ = some v5 ∧ w.cell? ⟨b, 6, none⟩ = some v6 ∧ w.cell? ⟨b, 7, none⟩ = some v7 ∧ (∀ i, w.frozen? ⟨b, i, none⟩ = false) ∧ b < w.heap.size :=
  ⟨cell_at h rfl, cell_at h rfl, cell_at h rfl, cell_at h rfl, cell_at h rfl, cell_at h rfl, cell_at h rfl, cell_at h rfl, frozen_block h, lt_block h⟩
structure R22 (w : World) (b s : Nat) (K : Ck) : Prop where
  own : ∃ cap, w.heap[b]? = some (.cells #[.bool true, .int .i64 K.ph, .slice (some ⟨s, 0, none⟩) K.many cap, .int .i64 K.cy] 206)
  row : ∃ cur, w.heap[s]? = some (.cells cur 4) ∧ ∀ i, i < K.many → cur[i]? = some (.bool (K.seen i))
  m1 : 1 ≤ K.many
  m4 : K.many ≤ 4
  p5 : K.ph ≤ 5
  off : ∀ i, K.many ≤ i → K.seen i = false
section
variable {w w' : World} {b s : Nat} {K : Ck} {S : Nat → Prop}
theorem R22.keeps (h : R22 w b s K) (hk : Keeps S w w') (h1 : ¬ S b) (h2 : ¬ S s) : R22 w' b s K := by
  obtain ⟨⟨cap, o⟩, ⟨cur, r, hr⟩, a, c, d, f⟩ := h
  exact ⟨⟨cap, block_keep o hk h1⟩, ⟨cur, block_keep r hk h2, hr⟩, a, c, d, f⟩
theorem R22.k0 (h : R22 w b s K) (hk : Keeps (fun _ => False) w w') : R22 w' b s K := h.keeps hk (fun h => h) (fun h => h)
theorem valid22 (b : Nat) (w : World) (h : w.cell? ⟨b, 0, none⟩ = some (.bool true)) : Calls Tryz.prog 116 #[.pointer (some ⟨b, 0, none⟩)] w fun e w' => e = .returned (.bool true) ∧ w' = w := by
  go_enter Tryz.func116, Tryz.ntmps116
  go_wp2
  go_ret
  exact ⟨rfl, rfl⟩
theorem phase22 (h : R22 w b s K) : Calls Tryz.prog 68 #[.pointer (some ⟨b, 0, none⟩)] w fun e w' => e = .returned (.int .i64 K.ph) ∧ w' = w := by
  obtain ⟨⟨cap, o⟩, _⟩ := h
  obtain ⟨c0, c1, _⟩ := cells4 o
  have HV := hid (valid22 b w c0)
  clear o
  go_enter Tryz.func68, Tryz.ntmps68
  go_wp2_with fail
  refine (HV.out).mono ?_
  rintro e w' ⟨rfl, h'⟩
  obtain rfl := h'.symm
  go_wp2_with fail
  go_ret
  exact ⟨rfl, rfl⟩
theorem seen22_range (i : Int) (h : R22 w b s K) (hi : i < 0 ∨ (K.many : Int) ≤ i) : Calls Tryz.prog 141 #[.pointer (some ⟨b, 0, none⟩), .int .i64 i] w fun e w' => e = .returned (.tuple #[.bool false, .int .i64 3]) ∧ w' = w := by
  obtain ⟨⟨cap, o⟩, _⟩ := h
  obtain ⟨c0, c1, c2, _⟩ := cells4 o
  have HV := hid (valid22 b w c0)
  clear o
  rcases hi with hi | hi
  · go_enter Tryz.func141, Tryz.ntmps141
    go_wp2_with fail
    refine (HV.out).mono ?_
    rintro e w' ⟨rfl, h'⟩
    obtain rfl := h'.symm
    go_wp2_with fail
    go_ret2
    exact ⟨rfl, rfl⟩
  · by_cases h0 : i < 0
    all_goals
      go_enter Tryz.func141, Tryz.ntmps141
      go_wp2_with fail
      refine (HV.out).mono ?_
      rintro e w' ⟨rfl, h'⟩
      obtain rfl := h'.symm
      go_wp2_with fail
      go_ret2
      exact ⟨rfl, rfl⟩
theorem seen22_ok (i : Nat) (h : R22 w b s K) (hi : i < K.many) : Calls Tryz.prog 141 #[.pointer (some ⟨b, 0, none⟩), .int .i64 i] w fun e w' => e = .returned (.tuple #[.bool (K.seen i), .int .i64 0]) ∧ w' = w := by
  obtain ⟨⟨cap, o⟩, ⟨cur, hr, hc⟩, _⟩ := h
  obtain ⟨c0, c1, c2, _⟩ := cells4 o
  have HV := hid (valid22 b w c0)
  have d0 := cell_at hr (hc i hi)
  have hi0 : ¬ (i : Int) < 0 := by omega
  have hi1 : ¬ (K.many : Int) ≤ (i : Int) := by omega
  have hi2 : (i : Int) < (K.many : Int) := by omega
  have hi3 : (0 : Int) ≤ (i : Int) := by omega
  clear o hr hc
  go_enter Tryz.func141, Tryz.ntmps141
  go_wp2_with fail
  refine (HV.out).mono ?_
  rintro e w' ⟨rfl, h'⟩
  obtain rfl := h'.symm
  go_wp2_with fail
  go_ret2
  exact ⟨rfl, rfl⟩
theorem shakes22 (h : R22 w b s K) : Calls Tryz.prog 122 #[.pointer (some ⟨b, 0, none⟩)] w fun e w' => e = .returned (.bool (K.ph == 1 || K.ph == 2)) ∧ w' = w := by
  obtain ⟨⟨cap, o⟩, _⟩ := h
  obtain ⟨c0, c1, c2, _⟩ := cells4 o
  obtain ⟨p, hp⟩ : ∃ p, K.ph = p := ⟨_, rfl⟩
  rw [hp] at c1 ⊢
  clear o hp
  by_cases h1 : p = 1
  · subst h1
    go_enter Tryz.func122, Tryz.ntmps122
    go_wp2_with fail
    go_ret
    exact ⟨rfl, rfl⟩
  · by_cases h2 : p = 2
    · subst h2
      go_enter Tryz.func122, Tryz.ntmps122
      go_wp2_with fail
      go_ret
      exact ⟨rfl, rfl⟩
    · have e1 : ((p : Int) == 1) = false := by simp; omega
      have e2 : ((p : Int) == 2) = false := by simp; omega
      have e3 : (p == 1 || p == 2) = false := by simp [h1, h2]
      rw [e3]
      clear h1 h2 e3
      go_enter Tryz.func122, Tryz.ntmps122
      go_wp2_with fail
      go_ret
      exact ⟨rfl, rfl⟩
theorem ack22_range (i : Int) (h : R22 w b s K) (hi : i < 0 ∨ (K.many : Int) ≤ i) : Calls Tryz.prog 89 #[.pointer (some ⟨b, 0, none⟩), .int .i64 i] w fun e w' => e = .returned (.tuple #[.bool false, .int .i64 3]) ∧ w' = w := by
  have HS := hid (seen22_range i h hi)
  clear h hi
  go_enter Tryz.func89, Tryz.ntmps89
  go_wp2_with fail
  refine (HS.out).mono ?_
  rintro e w' ⟨rfl, h'⟩
  obtain rfl := h'.symm
  go_wp2_with fail
  go_ret2
  exact ⟨rfl, rfl⟩
theorem ack22_state (i : Nat) (h : R22 w b s K) (hi : i < K.many) (h1 : K.ph ≠ 1) (h2 : K.ph ≠ 2) : Calls Tryz.prog 89 #[.pointer (some ⟨b, 0, none⟩), .int .i64 i] w fun e w' => e = .returned (.tuple #[.bool false, .int .i64 8]) ∧ w' = w := by
  have HS := hid (seen22_ok i h hi)
  have HK := hid (shakes22 h)
  rw [show (K.ph == 1 || K.ph == 2) = false by simp [h1, h2]] at HK
  obtain ⟨B, hB⟩ : ∃ B, K.seen i = B := ⟨_, rfl⟩
  rw [hB] at HS
  clear h hi h1 h2 hB
  go_enter Tryz.func89, Tryz.ntmps89
  go_wp2_with fail
  refine (HS.out).mono ?_
  rintro e w' ⟨rfl, h'⟩
  obtain rfl := h'.symm
  go_wp2_with fail
  refine (HK.out).mono ?_
  rintro e w' ⟨rfl, h'⟩
  obtain rfl := h'.symm
  go_wp2_with fail
  go_ret2
  exact ⟨rfl, rfl⟩
theorem to22 (p : Nat) (hp : p ≤ 5) (h : R22 w b s K) : Calls Tryz.prog 123 #[.pointer (some ⟨b, 0, none⟩), .int .i64 p] w fun e w' => e = .returned (.tuple #[]) ∧ Keeps (fun y => y = b) w w' ∧ ∃ s', w.heap.size ≤ s' ∧ R22 w' b s' (K.to p) := by
  obtain ⟨⟨cap, o⟩, _, m1, m4, _, _⟩ := h
  obtain ⟨C, hC, hC2⟩ := made_bools m1 m4
  have HC := hid hC2
  have HO := hid o
  obtain ⟨c0, c1, c2, c3, cf, cl⟩ := cells4f o
  have cf1 := cf 1; have cf2 := cf 2
  clear hC2 o cf
  go_enter Tryz.func123, Tryz.ntmps123
  go_wp2_with fail
  go_end0
  refine ⟨rfl, ?_, w.heap.size, Nat.le_refl _, ⟨⟨K.many, ?_⟩, ⟨C, ?_, HC.out⟩, m1, m4, hp, fun _ _ => rfl⟩⟩
  · repeat (first | (with_reducible exact (Keeps.refl _ _)) | with_reducible refine Keeps.setCell ?_ ?_ _ | with_reducible refine Keeps.alloc ?_ _ | with_reducible refine Keeps.drewN ?_ _ | with_reducible refine Keeps.drew ?_)
    all_goals first | (left; simp; done) | (left; simp; omega) | (right; simp; done) | (right; simp; omega)
  · exact alloc_old (set_block (set_block HO.out 1 (.int .i64 p)) 2 (.slice (some ⟨w.heap.size, 0, none⟩) K.many K.many))
  · exact alloc_new' (by simp)
theorem begin22 (h : R22 w b s K) (hp : K.ph = 0) : Calls Tryz.prog 117 #[.pointer (some ⟨b, 0, none⟩)] w fun e w' => e = .returned (.int .i64 0) ∧ Keeps (fun y => y = b) w w' ∧ ∃ s', w.heap.size ≤ s' ∧ R22 w' b s' (K.to 1) := by
  have HT := hid (to22 1 (by decide) h)
  obtain ⟨⟨cap, o⟩, _⟩ := h
  obtain ⟨c0, c1, c2, c3, cf, cl⟩ := cells4f o
  have HV := hid (valid22 b w c0)
  rw [hp] at c1
  clear o cf hp
  go_enter Tryz.func117, Tryz.ntmps117
  go_wp2_with fail
  refine (HV.out).mono ?_
  rintro e w' ⟨rfl, h'⟩
  obtain rfl := h'.symm
  go_wp2_with fail
  refine HT.out.mono ?_
  rintro e w1 ⟨rfl, k1, s', hs, h1⟩
  have H1 := hid (And.intro k1 (And.intro hs h1))
  clear k1 hs h1
  go_wp2_with fail
  go_ret
  exact ⟨rfl, H1.out.1, s', H1.out.2⟩
theorem new22_ok (m : Nat) (w : World) (h1 : 1 ≤ m) (h4 : m ≤ 4) : Calls Tryz.prog 54 #[.int .i64 m] w fun e w' => ∃ b, e = .returned (.tuple #[.pointer (some ⟨b, 0, none⟩), .int .i64 0]) ∧ Keeps (fun _ => False) w w' ∧ w.heap.size ≤ b ∧ ∃ s, w.heap.size ≤ s ∧ R22 w' b s ⟨0, m, 0, fun _ => false⟩ := by
  obtain ⟨C, hC, hC2⟩ := made_bools h1 h4
  have HC := hid hC2
  have e1 : ¬ (m : Int) < 1 := by omega
  have e4 : ¬ 4 < (m : Int) := by omega
  clear hC2
  go_enter Tryz.func54, Tryz.ntmps54
  go_wp2_with fail
  go_ret2
  exact ⟨_, rfl, ((Keeps.refl _ _).alloc _).alloc _, by simp, w.heap.size, Nat.le_refl _, ⟨⟨m, alloc_new' (by simp)⟩, ⟨C, alloc_old alloc_new, HC.out⟩, h1, h4, by show (0 : Nat) ≤ 5; decide, fun _ _ => rfl⟩⟩
theorem new15_ok (n : Nat) (w : World) (h1 : 1 ≤ n) (h4 : n ≤ 256) : Calls Tryz.prog 55 #[.int .i64 n] w fun e w' => ∃ b, e = .returned (.tuple #[.pointer (some ⟨b, 0, none⟩), .int .i64 0]) ∧ Keeps (fun _ => False) w w' ∧ w.heap.size ≤ b := by
  obtain ⟨C, hC, hC2⟩ := made_ints h1 h4
  have e1 : ¬ (n : Int) < 1 := by omega
  have e4 : ¬ 256 < (n : Int) := by omega
  clear hC2
  go_enter Tryz.func55, Tryz.ntmps55
  go_wp2_with fail
  go_ret2
  exact ⟨_, rfl, ((Keeps.refl _ _).alloc _).alloc _, by simp⟩
theorem new20_ok (n : Nat) (w : World) (h1 : 1 ≤ n) (h4 : n ≤ 64) : Calls Tryz.prog 56 #[.int .i64 n] w fun e w' => ∃ b, e = .returned (.tuple #[.pointer (some ⟨b, 0, none⟩), .int .i64 0]) ∧ Keeps (fun _ => False) w w' ∧ w.heap.size ≤ b := by
  have e1 : ¬ (n : Int) < 1 := by omega
  have e4 : ¬ 64 < (n : Int) := by omega
  go_enter Tryz.func56, Tryz.ntmps56
  go_wp2_with fail
  go_ret2
  exact ⟨_, rfl, (Keeps.refl _ _).alloc _, Nat.le_refl _⟩
theorem new21_ok (n : Nat) (w : World) (h1 : 1 ≤ n) (h4 : n ≤ 64) : Calls Tryz.prog 106 #[.int .i64 n] w fun e w' => e = .returned (.tuple #[.pointer (some ⟨w.heap.size, 0, none⟩), .int .i64 0]) ∧ Keeps (fun _ => False) w w' ∧ w'.heap[w.heap.size]? = some (.cells #[.int .i64 n, .slice none 0 0, .bool false] 248) := by
  have e1 : ¬ (n : Int) < 1 := by omega
  have e4 : ¬ 64 < (n : Int) := by omega
  go_enter Tryz.func106, Tryz.ntmps106
  go_wp2_with fail
  go_ret2
  exact ⟨rfl, (Keeps.refl _ _).alloc _, alloc_new⟩
theorem new25_ok (n : Nat) (w : World) (h1 : 1 ≤ n) (h4 : n ≤ 256) : Calls Tryz.prog 20 #[.int .i64 n] w fun e w' => e = .returned (.tuple #[.pointer (some ⟨w.heap.size, 0, none⟩), .int .i64 0]) ∧ Keeps (fun _ => False) w w' ∧ w'.heap[w.heap.size]? = some (.cells #[.int .i64 n, .int .i64 n, .int .i64 0] 140) := by
  have e1 : ¬ (n : Int) < 1 := by omega
  have e4 : ¬ 256 < (n : Int) := by omega
  go_enter Tryz.func20, Tryz.ntmps20
  go_wp2_with fail
  go_ret2
  exact ⟨rfl, (Keeps.refl _ _).alloc _, alloc_new⟩
/-! a row of buffers -/
set_option maxRecDepth 100000 in
theorem buf_info : ∃ i, Tryz.prog.info? 212 = some i ∧ i.zero = some (.pointer none) ∧ i.size = 1 ∧ i.bytes = 8 := by
  refine ⟨_, rfl, ?_, ?_, ?_⟩ <;> kernel_rfl
def BRow (w : World) (base : Nat) (v : Value) (l : List Value) : Prop := w.ownsRow base 212 1 v l.length l
theorem BRow.keeps {S : Nat → Prop} {base : Nat} {v : Value} {l : List Value} (h : BRow w base v l) (hk : Keeps S w w') (hS : ∀ k, base ≤ k → k < w.heap.size → v.ownBlock = some k → ¬ S k) : BRow w' base v l := by
  obtain ⟨h1, h2⟩ := h
  refine ⟨h1, ?_⟩
  rcases h2 with h2 | ⟨g, cap, cur, rfl, hb, hg, r1, r2, r3, r4⟩
  · exact .inl h2
  · exact .inr ⟨g, cap, cur, rfl, hb, block_keep hg hk (hS g hb (lt_block hg) rfl), r1, r2, r3, r4⟩
theorem BRow.ne {base z : Nat} {v : Value} {l : List Value} {c : Array Value} {t : TypeId} (h : BRow w base v l) (hz : w.heap[z]? = some (.cells c t)) (ht : 212 ≠ t) : ¬ v.ownBlock = some z := by
  intro e
  rcases h.2 with ⟨rfl, _⟩ | ⟨g, cap, cur, rfl, _, hg, _⟩
  · cases e
  · obtain rfl : g = z := Option.some.inj e
    exact type_ne hg hz ht rfl
theorem BRow.slice {base : Nat} {v : Value} {l : List Value} (h : BRow w base v l) : ∃ a c, v = .slice a l.length c := own_shape h
theorem BRow.lt {base : Nat} {v : Value} {l : List Value} (h : BRow w base v l) : ∀ k, v.ownBlock = some k → base ≤ k ∧ k < w.heap.size := World.ownsRow.lt h
theorem run_append_buf (ty : TypeId) (base : Nat) (v q : Value) (l : List Value) (g : Nat) (w : World) (hv : BRow w base v l) (hg : w.heap[g]? = some (.cells #[q] 212)) (hq : q.oneCell' = true) (h1 : l.length ≤ 1000) (hb : base ≤ w.heap.size) :
    ∃ v' w', (Builtin.append_ #[130, 130] ty #[v, .slice (some ⟨g, 0, none⟩) 1 1]).run Tryz.prog w = .ok v' w' ∧ BRow w' base v' (l ++ [q]) ∧ Keeps (fun k => v.ownBlock = some k) w w' ∧ (v'.ownBlock = v.ownBlock ∨ v'.ownBlock = some w.heap.size) := by
  obtain ⟨ri, hi1, hi2, hi3, hi4⟩ := buf_info
  obtain ⟨v', w', r1, r2, r3, _, r5⟩ := run_append_own_at (P := Tryz.prog) w base 130 ty 212 ri (.pointer none) 1 8 Tryz.underlying130 hi1 hi2 hi3 hi4 rfl (by decide) v l.length l hv ⟨g, 0, none⟩ 1 1 [q] rfl
    (fun j x hj => by
      rw [Addr.add_mid, Nat.zero_add, cell_block hg]
      rw [← List.getElem?_toArray] at hj
      exact hj)
    (fun u hu => by rw [List.mem_singleton.1 hu]; exact hq) (by simp [maxLen]; omega) (by omega) hb
  refine ⟨v', w', r1, ?_, (grown_keeps r3).mono (fun k _ h => h), r5⟩
  unfold BRow
  rw [List.length_append]
  exact r2
theorem wpList_append_buf {ops : Array Oper} {rest : List Oper} {o : Oper} {a : Act} {Q : Exit → Act → World → Prop} (w : World) (hgd : o.guard = none) (s x : Operand)
    (ho : o.op = .call { callee := .builtin .append, args := #[s, x], argTypes := #[130, 130] })
    (base g : Nat) (v q : Value) (l : List Value) (hs : a.eval s = v) (hx : a.eval x = .slice (some ⟨g, 0, none⟩) 1 1) (hv : BRow w base v l) (hg : w.heap[g]? = some (.cells #[q] 212)) (hq : q.oneCell' = true) (h1 : l.length ≤ 1000) (hb : base ≤ w.heap.size)
    (h : ∀ v' w', BRow w' base v' (l ++ [q]) → Keeps (fun k => v.ownBlock = some k) w w' → (v'.ownBlock = v.ownBlock ∨ v'.ownBlock = some w.heap.size) → wpList Tryz.prog ops Q rest (a.put o.dst v') w') :
    wpList Tryz.prog ops Q (o :: rest) a w := by
  refine wpList_plain hgd fun K hK => ?_
  obtain ⟨v', w', hr, h2, h3, h4⟩ := run_append_buf o.type base v q l g w hv hg hq h1 hb
  unfold Oper.wp execOp
  simp only [ho, resolve, invoke, builtin, Sem.run_bind, Sem.run_pure, Result.andThen_ok, List.map_toArray, List.map_cons, List.map_nil, hs, hx, hr]
  exact hK _ _ (h v' w' h2 h3 h4)
/-! the document's marker, as far as New lays it -/
structure K24 (w : World) (m c s n k : Nat) (K : Ck) : Prop where
  own : ∃ (p : Nat) (vP vS vB : Value), w.heap[m]? = some (.cells #[.int .i64 n, .int .i64 k, .int .i64 p, .pointer (some ⟨c, 0, none⟩), vP, vS, vB] 132)
  ck : R22 w c s K
  hm : K.many = k
  n1 : 1 ≤ n
  n2 : n ≤ 256
theorem K24.k0 {m c s n k : Nat} (h : K24 w m c s n k K) (hk : Keeps (fun _ => False) w w') : K24 w' m c s n k K := by
  obtain ⟨⟨p, vP, vS, vB, o⟩, h2, h3, h4, h5⟩ := h
  exact ⟨⟨p, vP, vS, vB, block_keep o hk (fun h => h)⟩, h2.k0 hk, h3, h4, h5⟩
set_option maxRecDepth 100000 in
set_option maxHeartbeats 1000000 in
theorem empty24 (m n k p : Nat) (vC vP vS vB : Value) (w : World) (h : w.heap[m]? = some (.cells #[.int .i64 n, .int .i64 k, .int .i64 p, vC, vP, vS, vB] 132)) (k4 : k ≤ 4) (p1 : 1 ≤ p) (p2 : p ≤ 64) :
    Calls Tryz.prog 57 #[.pointer (some ⟨m, 0, none⟩)] w fun e w' => e = .returned (.tuple #[]) ∧ Keeps (fun y => y = m) w w' ∧ ∃ vB', w'.heap[m]? = some (.cells #[.int .i64 n, .int .i64 k, .int .i64 p, vC, vP, vS, vB'] 132) := by
  have HN := hid (fun W => new21_ok p W p1 p2)
  have HQ := hid h
  obtain ⟨c0, c1, c2, c3, c4, c5, c6, cf, cl⟩ := cells7f h
  have cf6 := cf 6
  clear h cf p1 p2
  go_enter Tryz.func57, Tryz.ntmps57
  go_wp2_with fail
  go_loopw [2] (fun ix wr => ∃ (i : Nat) (vB : Value) (l : List Value), i ≤ k ∧ l.length = i ∧ ix = .int .i64 i ∧ Hid (wr.heap[m]? = some (.cells #[.int .i64 n, .int .i64 k, .int .i64 p, vC, vP, vS, vB] 132)) ∧ Hid (BRow wr w.heap.size vB l) ∧ Hid (Keeps (fun y => y = m) w wr)) (fun ix _ => k - (intOf ix).toNat)
  case atStart => exact ⟨0, .slice none 0 0, [], Nat.zero_le _, rfl, rfl, hid ((set_block HQ.out 6 _).trans rfl), hid (World.ownsRow_nil _ _ _ _), hid (keeps_set1 _ _ _ _)⟩
  case round =>
    obtain ⟨i, vB, l, hi, hl, rfl, HM, HB, HK⟩ := hrel
    have hi0 : (0 : Int) ≤ i := by omega
    obtain ⟨c0, c1, c2, c3, c4, c5, c6, cf, cl'⟩ := cells7f HM.out
    by_cases hlt : i < k
    · have hlt' : (i : Int) < (k : Int) := by omega
      have hsz := HK.out.size
      have HNN := hid (HN.out wr)
      clear cf
      go_wp2_with fail
      refine HNN.out.mono ?_
      rintro e w2 ⟨rfl, k2, q2⟩
      have HM2 := hid (block_keep HM.out k2 (fun h => h))
      have HB2 := hid (HB.out.keeps k2 (fun _ _ _ _ h => h))
      have HK2 := hid (HK.out.trans k2.up)
      have hs2 := k2.size
      clear c0 c1 c2 c3 c4 c5 c6 cl' k2 q2
      obtain ⟨c0, c1, c2, c3, c4, c5, c6, cf, cl'⟩ := cells7f HM2.out
      clear cf
      have HMA := hid (alloc_old (o := .cells #[.pointer (some ⟨wr.heap.size, 0, none⟩)] 212) HM2.out)
      have HBA := hid (HB2.out.keeps ((Keeps.refl (fun _ => False) w2).alloc (.cells #[.pointer (some ⟨wr.heap.size, 0, none⟩)] 212)) (fun _ _ _ _ h => h))
      have HQA := hid (alloc_new (w := w2) (o := .cells #[.pointer (some ⟨wr.heap.size, 0, none⟩)] 212))
      have HKA := hid (HK2.out.alloc (.cells #[.pointer (some ⟨wr.heap.size, 0, none⟩)] 212))
      go_wp2_with (first
        | (at_builtin; refine wpList_append_buf _ rfl _ _ rfl w.heap.size w2.heap.size _ (.pointer (some ⟨wr.heap.size, 0, none⟩)) l rfl rfl HBA.out HQA.out rfl (by omega) (by rw [World.size_alloc]; omega) ?_; intro v6 w6 hr6 hk6 ho6; obtain ⟨p6, q6, rfl⟩ := hr6.slice; obtain ⟨n6, hn6⟩ : ∃ n6, (l ++ [Value.pointer (some ⟨wr.heap.size, 0, none⟩)]).length = n6 := ⟨_, rfl⟩; rw [hn6] at hr6 ⊢; have HN6 := hid hn6; clear hn6 ho6; have HM6 := hid (block_keep HMA.out hk6 (fun h => HBA.out.ne HMA.out (by decide) h)); obtain ⟨d0, d1, d2, d3, d4, d5, d6, df, dl⟩ := cells7f HM6.out; have df6 := df 6; clear df)
        | fail)
      have hlt6 := HBA.out.lt
      refine ⟨⟨i + 1, .slice p6 n6 q6, l ++ [.pointer (some ⟨wr.heap.size, 0, none⟩)], by omega, by rw [List.length_append, hl]; rfl, by go_num, hid ((set_block HM6.out 6 _).trans rfl), hid (hr6.keeps (keeps_set1 _ _ _ _) (fun z _ _ h e => hr6.ne HM6.out (by decide) (by rw [← e]; exact h))), hid ((HKA.out.trans' hk6 (fun _ _ h => h) (fun y hy hz => by have := (hlt6 y hz).1; omega)).trans (keeps_set1 _ _ _ _))⟩, by simp [intOf]; omega⟩
    · obtain rfl : i = k := by omega
      go_wp2_with fail
      go_end0
      exact ⟨rfl, HK.out, vB, HM.out⟩
set_option maxRecDepth 100000 in
set_option maxHeartbeats 1000000 in
theorem new24_bad (n k q p : Int) (w : World) (hb : n < 1 ∨ 256 < n ∨ k < 1 ∨ 4 < k ∨ q < 1 ∨ 64 < q ∨ p < 1 ∨ 64 < p) :
    Calls Tryz.prog 19 #[.int .i64 n, .int .i64 k, .int .i64 q, .int .i64 p] w fun e w' => e = .returned (.tuple #[.pointer none, .int .i64 2]) ∧ Keeps (fun _ => False) w w' := by
  have hc : n < 1 ∨ (¬ n < 1 ∧ 256 < n) ∨ (¬ n < 1 ∧ ¬ 256 < n ∧ k < 1) ∨ (¬ n < 1 ∧ ¬ 256 < n ∧ ¬ k < 1 ∧ 4 < k) ∨ (¬ n < 1 ∧ ¬ 256 < n ∧ ¬ k < 1 ∧ ¬ 4 < k ∧ q < 1) ∨ (¬ n < 1 ∧ ¬ 256 < n ∧ ¬ k < 1 ∧ ¬ 4 < k ∧ ¬ q < 1 ∧ 64 < q) ∨ (¬ n < 1 ∧ ¬ 256 < n ∧ ¬ k < 1 ∧ ¬ 4 < k ∧ ¬ q < 1 ∧ ¬ 64 < q ∧ p < 1) ∨ (¬ n < 1 ∧ ¬ 256 < n ∧ ¬ k < 1 ∧ ¬ 4 < k ∧ ¬ q < 1 ∧ ¬ 64 < q ∧ ¬ p < 1 ∧ 64 < p) := by omega
  clear hb
  rcases hc with h1 | ⟨h1, h2⟩ | ⟨h1, h2, h3⟩ | ⟨h1, h2, h3, h4⟩ | ⟨h1, h2, h3, h4, h5⟩ | ⟨h1, h2, h3, h4, h5, h6⟩ | ⟨h1, h2, h3, h4, h5, h6, h7⟩ | ⟨h1, h2, h3, h4, h5, h6, h7, h8⟩
  all_goals
    go_enter Tryz.func19, Tryz.ntmps19
    go_wp2_with fail
    go_ret2
    exact ⟨rfl, Keeps.refl _ _⟩
set_option maxRecDepth 100000 in
set_option maxHeartbeats 1000000 in
theorem new24_ok (n k q p : Nat) (w : World) (n1 : 1 ≤ n) (n2 : n ≤ 256) (k1 : 1 ≤ k) (k4 : k ≤ 4) (s1 : 1 ≤ q) (s2 : q ≤ 64) (p1 : 1 ≤ p) (p2 : p ≤ 64) :
    Calls Tryz.prog 19 #[.int .i64 n, .int .i64 k, .int .i64 q, .int .i64 p] w fun e w' => ∃ m c s, e = .returned (.tuple #[.pointer (some ⟨m, 0, none⟩), .int .i64 0]) ∧ Keeps (fun _ => False) w w' ∧ w.heap.size ≤ m ∧ w.heap.size ≤ c ∧ w.heap.size ≤ s ∧ K24 w' m c s n k ⟨0, k, 0, fun _ => false⟩ := by
  have e1 : ¬ (n : Int) < 1 := by omega
  have e2 : ¬ 256 < (n : Int) := by omega
  have e3 : ¬ (k : Int) < 1 := by omega
  have e4 : ¬ 4 < (k : Int) := by omega
  have e5 : ¬ (q : Int) < 1 := by omega
  have e6 : ¬ 64 < (q : Int) := by omega
  have e7 : ¬ (p : Int) < 1 := by omega
  have e8 : ¬ 64 < (p : Int) := by omega
  have H22 := hid (fun W => new22_ok k W k1 k4)
  have H15 := hid (fun W => new15_ok n W n1 n2)
  have H20 := hid (fun W => new20_ok q W s1 s2)
  have HEM := hid (fun m vC vP vS vB W h => empty24 m n k p vC vP vS vB W h k4 p1 p2)
  have HN12 := hid (And.intro n1 n2)
  clear n1 n2 k1 k4 s1 s2 p1 p2
  go_enter Tryz.func19, Tryz.ntmps19
  go_wp2_with fail
  refine (H22.out _).mono ?_
  rintro e w1 ⟨c, rfl, k1, lc, s, ls, h22⟩
  have HQ1 := hid (block_keep (alloc_new (w := w) (o := .cells #[.int .i64 n, .int .i64 k, .int .i64 p, .pointer none, .pointer none, .pointer none, .slice none 0 0] 132)) k1 (fun h => h))
  have K1 := hid (((Keeps.refl (fun _ => False) w).alloc (.cells #[.int .i64 n, .int .i64 k, .int .i64 p, .pointer none, .pointer none, .pointer none, .slice none 0 0] 132)).trans k1)
  have HC := hid h22
  obtain ⟨c0, c1, c2, c3, c4, c5, c6, cf, cl⟩ := cells7f HQ1.out
  have cf3 := cf 3
  simp only [World.size_alloc] at lc ls
  clear k1 h22 cf
  go_wp2_with fail
  refine (H15.out _).mono ?_
  rintro e w2 ⟨pb, rfl, k2, lp⟩
  have HQ2 := hid (block_keep ((set_block HQ1.out 3 _).trans rfl) k2 (fun h => h))
  have KA2 := hid ((keeps_set1 w1 w.heap.size 3 (.pointer (some ⟨c, 0, none⟩))).trans k2.up)
  clear k2 c0 c1 c2 c3 c4 c5 c6 cl cf3
  obtain ⟨c0, c1, c2, c3, c4, c5, c6, cf, cl⟩ := cells7f HQ2.out
  have cf4 := cf 4
  clear cf
  go_wp2_with fail
  refine (H20.out _).mono ?_
  rintro e w3 ⟨sb, rfl, k3, lsb⟩
  have HQ3 := hid (block_keep ((set_block HQ2.out 4 _).trans rfl) k3 (fun h => h))
  have KA3 := hid (KA2.out.trans ((keeps_set1 w2 w.heap.size 4 (.pointer (some ⟨pb, 0, none⟩))).trans k3.up))
  clear k3 c0 c1 c2 c3 c4 c5 c6 cl cf4
  obtain ⟨c0, c1, c2, c3, c4, c5, c6, cf, cl⟩ := cells7f HQ3.out
  have cf5 := cf 5
  clear cf
  have HQ4 := hid ((set_block HQ3.out 5 (.pointer (some ⟨sb, 0, none⟩))).trans rfl)
  go_wp2_with fail
  refine (HEM.out _ _ _ _ _ _ HQ4.out).mono ?_
  rintro e w5 ⟨rfl, k5, vB', q5⟩
  have KA5 := hid ((KA3.out.trans (keeps_set1 w3 w.heap.size 5 (.pointer (some ⟨sb, 0, none⟩)))).trans k5)
  have HQ5 := hid q5
  clear k5 q5
  go_wp2_with fail
  go_ret2
  refine ⟨w.heap.size, c, s, rfl, Keeps.fresh ((K1.out.up (T := fun y => w.heap.size ≤ y)).trans (KA5.out.mono (fun y _ h => by omega))), Nat.le_refl _, by omega, by omega, ⟨⟨p, _, _, _, HQ5.out⟩, HC.out.keeps KA5.out (by omega) (by omega), rfl, HN12.out.1, HN12.out.2⟩⟩
theorem valid24 (m : Nat) (n : Int) (w : World) (h : w.cell? ⟨m, 0, none⟩ = some (.int .i64 n)) (hn : 0 < n) : Calls Tryz.prog 67 #[.pointer (some ⟨m, 0, none⟩)] w fun e w' => e = .returned (.bool true) ∧ w' = w := by
  go_enter Tryz.func67, Tryz.ntmps67
  go_wp2
  go_ret
  exact ⟨rfl, rfl⟩
section
variable {m c n k x N : Nat} {L : L18} {A : Ar}
theorem phase24 (h : K24 w m c s n k K) : Calls Tryz.prog 31 #[.pointer (some ⟨m, 0, none⟩)] w fun e w' => e = .returned (.int .i64 K.ph) ∧ w' = w := by
  obtain ⟨⟨p, vP, vS, vB, o⟩, hc, h3, n1, n2⟩ := h
  obtain ⟨c0, c1, c2, c3, c4, c5, c6, cf, cl⟩ := cells7f o
  have HV := hid (valid24 m n w c0 (by omega))
  have HP := hid (phase22 hc)
  clear o hc cf
  go_enter Tryz.func31, Tryz.ntmps31
  go_wp2_with fail
  refine (HV.out).mono ?_
  rintro e w' ⟨rfl, h'⟩
  obtain rfl := h'.symm
  go_wp2_with fail
  refine (HP.out).mono ?_
  rintro e w' ⟨rfl, h'⟩
  obtain rfl := h'.symm
  go_wp2_with fail
  go_ret
  exact ⟨rfl, rfl⟩
theorem check24_ok (h : K24 w m c s n k K) (hR : R18 w x L A) (hn : A.H.T.n = n) (hm : A.many = k) : Calls Tryz.prog 80 #[.pointer (some ⟨m, 0, none⟩), .pointer (some ⟨x, 0, none⟩)] w fun e w' => e = .returned (.int .i64 0) ∧ Keeps (fun _ => False) w w' := by
  have H24 := hid h
  have HCP := hid (copy18 hR)
  have HSZ := hid (fun W (hk : Keeps (fun _ => False) w W) => sizes18 (hR.k0 hk))
  rw [hn, hm] at HSZ
  obtain ⟨⟨p, vP, vS, vB, o⟩, hc, h3, n1, n2⟩ := h
  obtain ⟨c0, c1, c2, c3, c4, c5, c6, cf, cl⟩ := cells7f o
  have HO := hid o
  have HV := hid (valid24 m n w c0 (by omega))
  clear hR o hc cf c0 c1 c2 c3 c4 c5 c6 hn hm
  go_enter Tryz.func80, Tryz.ntmps80
  go_wp2_with fail
  refine (HV.out).mono ?_
  rintro e w' ⟨rfl, h'⟩
  obtain rfl := h'.symm
  go_wp2_with fail
  refine HCP.out.mono ?_
  rintro e w1 ⟨x', L', rfl, k1, _, _, _⟩
  have K1 := hid k1
  clear k1
  go_wp2_with fail
  refine (HSZ.out _ K1.out).mono ?_
  rintro e w2 ⟨rfl, k2⟩
  have K2 := hid (K1.out.trans k2)
  obtain ⟨c0, c1, c2, c3, c4, c5, c6, cf, _⟩ := cells7f (block_keep HO.out (K1.out.trans k2) (fun h => h))
  clear k2
  go_wp2_with fail
  go_ret
  exact ⟨rfl, K2.out⟩
theorem check24_bad (h : K24 w m c s n k K) (hR : R18 w x L A) (hb : A.H.T.n ≠ n ∨ A.many ≠ k) : Calls Tryz.prog 80 #[.pointer (some ⟨m, 0, none⟩), .pointer (some ⟨x, 0, none⟩)] w fun e w' => e = .returned (.int .i64 2) ∧ Keeps (fun _ => False) w w' := by
  have HCP := hid (copy18 hR)
  have HSZ := hid (fun W (hk : Keeps (fun _ => False) w W) => sizes18 (hR.k0 hk))
  obtain ⟨n', hn'⟩ : ∃ n', A.H.T.n = n' := ⟨_, rfl⟩
  obtain ⟨k', hk'⟩ : ∃ k', A.many = k' := ⟨_, rfl⟩
  rw [hn', hk'] at HSZ
  rw [hn', hk'] at hb
  obtain ⟨⟨p, vP, vS, vB, o⟩, hc, h3, n1, n2⟩ := h
  obtain ⟨c0, c1, c2, c3, c4, c5, c6, cf, cl⟩ := cells7f o
  have HO := hid o
  have HV := hid (valid24 m n w c0 (by omega))
  clear hR o hc cf c0 c1 c2 c3 c4 c5 c6 hn' hk' h3
  have hcs : ((n' : Int) != (n : Int)) = true ∨ (((n' : Int) != (n : Int)) = false ∧ ((k' : Int) != (k : Int)) = true) := by
    by_cases h : n' = n
    · right; subst h; exact ⟨by simp, by simpa using (by omega : ¬ (k' : Int) = k)⟩
    · left; simpa using (by omega : ¬ (n' : Int) = n)
  clear hb
  rcases hcs with hq | ⟨hq, hq2⟩
  all_goals
    go_enter Tryz.func80, Tryz.ntmps80
    go_wp2_with fail
    refine (HV.out).mono ?_
    rintro e w' ⟨rfl, h'⟩
    obtain rfl := h'.symm
    go_wp2_with fail
    refine HCP.out.mono ?_
    rintro e w1 ⟨x', L', rfl, k1, _, _, _⟩
    have K1 := hid k1
    clear k1
    go_wp2_with fail
    refine (HSZ.out _ K1.out).mono ?_
    rintro e w2 ⟨rfl, k2⟩
    have K2 := hid (K1.out.trans k2)
    obtain ⟨c0, c1, c2, c3, c4, c5, c6, cf, _⟩ := cells7f (block_keep HO.out (K1.out.trans k2) (fun h => h))
    clear k2
    go_wp2_with fail
    go_ret
    exact ⟨rfl, K2.out⟩
theorem ack24 (i : Int) (E : Int) (h : K24 w m c s n k K) (hR : R18 w x L A) (h0 : K.ph = 0)
    (hE : ((A.H.T.n ≠ n ∨ A.many ≠ k) ∧ E = 2) ∨ (A.H.T.n = n ∧ A.many = k ∧ ((i < 0 ∨ (k : Int) ≤ i) ∧ E = 3 ∨ (0 ≤ i ∧ i < k) ∧ E = 8))) :
    Calls Tryz.prog 40 #[.pointer (some ⟨m, 0, none⟩), .pointer (some ⟨x, 0, none⟩), .int .i64 i] w fun e w' => e = .returned (.tuple #[.bool false, .int .i64 E]) ∧ Keeps (fun _ => False) w w' := by
  rcases hE with ⟨hb, rfl⟩ | ⟨hn, hm, hE⟩
  · have HC := hid (check24_bad h hR hb)
    clear h hR hb h0
    go_enter Tryz.func40, Tryz.ntmps40
    go_wp2_with fail
    refine HC.out.mono ?_
    rintro e w1 ⟨rfl, k1⟩
    have K1 := hid k1
    clear k1
    go_wp2_with fail
    go_ret2
    exact ⟨rfl, K1.out⟩
  · have HC := hid (check24_ok h hR hn hm)
    have H24 := hid (fun W (hk : Keeps (fun _ => False) w W) => h.k0 hk)
    have HA : ∀ W, Keeps (fun _ => False) w W → Calls Tryz.prog 89 #[.pointer (some ⟨c, 0, none⟩), .int .i64 i] W fun e w' => e = .returned (.tuple #[.bool false, .int .i64 E]) ∧ w' = W := fun W hk => by
      have hc := (h.k0 hk).ck
      have hmk := h.hm
      rcases hE with ⟨hi, rfl⟩ | ⟨hi, rfl⟩
      · exact ack22_range i hc (by rw [hmk]; exact hi)
      · obtain ⟨j, rfl⟩ : ∃ j : Nat, i = j := ⟨i.toNat, by omega⟩
        exact ack22_state j hc (by omega) (by omega) (by omega)
    have HAA := hid HA
    have hne : (E != 0) = true := by rcases hE with ⟨_, rfl⟩ | ⟨_, rfl⟩ <;> rfl
    have HO := hid h.own
    clear h hR hn hm h0 hE HA
    go_enter Tryz.func40, Tryz.ntmps40
    go_wp2_with fail
    refine HC.out.mono ?_
    rintro e w1 ⟨rfl, k1⟩
    have K1 := hid k1
    obtain ⟨⟨p, vP, vS, vB, o⟩, _⟩ := H24.out _ k1
    obtain ⟨c0, c1, c2, c3, c4, c5, c6, cf, cl⟩ := cells7f o
    clear k1 cf o
    go_wp2_with fail
    refine (HAA.out _ K1.out).mono ?_
    rintro e w' ⟨rfl, h'⟩
    obtain rfl := h'.symm
    go_wp2_with fail
    go_ret2
    exact ⟨rfl, K1.out⟩
theorem begin24 (h : K24 w m c s n k K) (h0 : K.ph = 0) : Calls Tryz.prog 69 #[.pointer (some ⟨m, 0, none⟩)] w fun e w' => e = .returned (.int .i64 0) ∧ Keeps (fun y => y = c) w w' ∧ ∃ s', w.heap.size ≤ s' ∧ K24 w' m c s' n k (K.to 1) := by
  have HB := hid (begin22 h.ck h0)
  have HH := hid h
  obtain ⟨⟨p, vP, vS, vB, o⟩, hc, h3, n1, n2⟩ := h
  obtain ⟨c0, c1, c2, c3, c4, c5, c6, cf, cl⟩ := cells7f o
  have HV := hid (valid24 m n w c0 (by omega))
  have HO := hid o
  clear hc cf h3 o
  go_enter Tryz.func69, Tryz.ntmps69
  go_wp2_with fail
  refine (HV.out).mono ?_
  rintro e w' ⟨rfl, h'⟩
  obtain rfl := h'.symm
  go_wp2_with fail
  refine HB.out.mono ?_
  rintro e w1 ⟨rfl, k1, s', ls, h1⟩
  have H1 := hid h1; have K1 := hid k1; have LS := hid ls
  clear k1 h1 ls
  go_wp2_with fail
  go_ret
  obtain ⟨cap, oc⟩ := HH.out.ck.own
  exact ⟨rfl, K1.out, s', LS.out, ⟨⟨p, vP, vS, vB, block_keep HO.out K1.out (fun e => type_ne HO.out oc (by decide) e)⟩, H1.out, HH.out.hm, HH.out.n1, HH.out.n2⟩⟩
end
end

end Go.Proofs.YtnjgkhgdgpahfaaGreat
