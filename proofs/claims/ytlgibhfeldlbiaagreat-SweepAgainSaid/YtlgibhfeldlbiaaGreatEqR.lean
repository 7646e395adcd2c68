/- slices.Equal of names. -/
import Derived.Test.YtlgibhfeldlbiaaGreatMgM
namespace Go.Proofs.YtlgibhfeldlbiaaGreat
open Go.RowKit
set_option linter.unusedVariables false
set_option linter.unusedSimpArgs false

/-- the cells of a slice of names -/
theorem Refs.cell {w : World} {a : Option Addr} {n c : Nat} {l : List Rf} (h : Refs w (.slice a n c) l) : n = l.length ∧ ∀ (j : Nat) (r : Rf), l[j]? = some r → ∃ g, a = some ⟨g, 0, none⟩ ∧ g < w.heap.size ∧ w.cell? ⟨g, j * 2, none⟩ = some (.int .i64 r.s) ∧ w.cell? ⟨g, j * 2 + 1, none⟩ = some (.int .u32 r.g) := by
  rcases h with ⟨e, rfl⟩ | ⟨g, cap, cur, e, hg, hc⟩
  · injection e with e1 e2 e3
    exact ⟨e2, fun j r hj => by cases hj⟩
  · injection e with e1 e2 e3
    exact ⟨e2, fun j r hj => ⟨g, e1, lt_block hg, cell_at hg (hc j r hj).1, cell_at hg (hc j r hj).2⟩⟩
theorem Refs.slice {w : World} {v : Value} {l : List Rf} (h : Refs w v l) : ∃ a c, v = .slice a l.length c := by
  rcases h with ⟨rfl, rfl⟩ | ⟨g, cap, cur, rfl, hg, hc⟩
  · exact ⟨_, _, rfl⟩
  · exact ⟨_, _, rfl⟩
theorem Rf.eq_iff {x y : Rf} : (x.s == y.s && x.g == y.g) = decide (x = y) := by
  obtain ⟨a, b⟩ := x; obtain ⟨c, d⟩ := y
  rw [Bool.eq_iff_iff]
  simp

set_option maxRecDepth 100000 in
theorem requal (v1 v2 : Value) (l1 l2 : List Rf) (w : World) (h1 : Refs w v1 l1) (h2 : Refs w v2 l2) (hb : l1.length ≤ 65536) :
    Calls Tryz.prog 46 #[v1, v2] w fun e w' => e = .returned (.bool (decide (l1 = l2))) ∧ Keeps (fun _ => False) w w' := by
  obtain ⟨a1, c1, rfl⟩ := h1.slice
  obtain ⟨a2, c2, rfl⟩ := h2.slice
  have H1 := hid (fun W (hk : Keeps (fun _ => False) w W) => (h1.keeps hk (fun _ _ h => h)).cell.2)
  have H2 := hid (fun W (hk : Keeps (fun _ => False) w W) => (h2.keeps hk (fun _ _ h => h)).cell.2)
  clear h1 h2
  by_cases hl : l1.length = l2.length
  · obtain ⟨n, hn⟩ : ∃ n, l1.length = n := ⟨_, rfl⟩
    have hn2 : l2.length = n := hl.symm.trans hn
    rw [hn, hn2]
    rw [hn] at hb
    clear hl
    go_enter Tryz.func46, Tryz.ntmps46
    go_wp2_with fail
    go_loopw [13] (fun ix wr => ∃ k : Nat, k ≤ n ∧ ix = .int .i64 k ∧ l1.take k = l2.take k ∧ Keeps (fun _ => False) w wr) (fun ix _ => n - (intOf ix).toNat)
    case atStart => exact ⟨0, Nat.zero_le _, rfl, rfl, Keeps.refl _ _⟩
    case round =>
      obtain ⟨k, hk, rfl, he, hkr⟩ := hrel
      have HKR := hid hkr; have HE := hid he
      by_cases hlt : k < n
      · obtain ⟨x, hx⟩ : ∃ x, l1[k]? = some x := ⟨_, List.getElem?_eq_getElem (by omega)⟩
        obtain ⟨y, hy⟩ : ∃ y, l2[k]? = some y := ⟨_, List.getElem?_eq_getElem (by omega)⟩
        obtain ⟨g1, rfl, b1, p0, p1⟩ := H1.out wr hkr k x hx
        obtain ⟨g2, rfl, b2, q0, q1⟩ := H2.out wr hkr k y hy
        have hlt' : (k : Int) < (n : Int) := by omega
        have hk0 : (0 : Int) ≤ k := by omega
        have HX := hid hx; have HY := hid hy
        have hneq := fun w => neq_ref w x.s x.g y.s y.g
        simp only [Rf.eq_iff] at hneq
        clear hkr he hx hy
        by_cases hxy : x = y
        · rw [decide_eq_true hxy] at hneq
          have HXY := hid hxy
          clear hxy
          go_wp2_with fail
          go_quiet (fail)
          go_wp2_with fail
          refine ⟨⟨k + 1, by omega, by go_num, ?_, (HKR.out.drewN _)⟩, by simp [intOf]; omega⟩
          rw [List.take_add_one, List.take_add_one, HE.out, HX.out, HY.out, HXY.out]
        · rw [decide_eq_false hxy] at hneq
          have hd : decide (l1 = l2) = false := decide_eq_false (fun h => hxy (by have h1 := HX.out; rw [h, HY.out] at h1; exact (Option.some.inj h1).symm))
          have HD := hid hd
          clear hxy hd
          go_wp2_with fail
          go_quiet (fail)
          go_wp2_with fail
          go_ret
          exact ⟨ret_bool HD.out.symm, HKR.out.drewN _⟩
      · have hlt' : ¬ (k : Int) < (n : Int) := by omega
        have hall : l1 = l2 := by
          rw [← List.take_of_length_le (l := l1) (i := k) (by omega), ← List.take_of_length_le (l := l2) (i := k) (by omega)]; exact he
        have HALL := hid hall
        clear hkr he hall
        go_wp2_with fail
        go_ret
        exact ⟨ret_bool (by simp [HALL.out]), HKR.out⟩
  · have hd : decide (l1 = l2) = false := decide_eq_false (fun h => hl (by rw [h]))
    have hl' : ((l1.length : Int) == l2.length) = false := by simpa using (by omega : ¬ (l1.length : Int) = l2.length)
    rw [hd]
    clear hl
    go_enter Tryz.func46, Tryz.ntmps46
    go_wp2_with fail
    go_ret
    exact ⟨rfl, Keeps.refl _ _⟩

end Go.Proofs.YtlgibhfeldlbiaaGreat
