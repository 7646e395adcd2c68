/- slices.Contains of names. -/
import Derived.Test.YtiopnedplnoleaaGreatEqR
import Derived.Test.YtiopnedplnoleaaGreatMgR
namespace Go.Proofs.YtiopnedplnoleaaGreat
open Go.RowKit
set_option linter.unusedVariables false

set_option maxRecDepth 100000 in
theorem rindexv (v : Value) (l : List Rf) (x : Rf) (w : World) (hv : Refs w v l) (hb : l.length ≤ 65536) :
    Calls Tryz.prog 179 #[v, .agg #[.int .i64 x.s, .int .u32 x.g]] w fun e w' => ∃ k : Int, e = .returned (.int .i64 k) ∧ decide (0 ≤ k) = decide (x ∈ l) ∧ Keeps (fun _ => False) w w' := by
  obtain ⟨p, c, rfl⟩ := hv.slice
  have HV := hid (fun W (hk : Keeps (fun _ => False) w W) => (hv.keeps hk (fun _ _ h => h)).cell.2)
  obtain ⟨n, hn⟩ : ∃ n, l.length = n := ⟨_, rfl⟩
  rw [hn] at hb ⊢
  have HQ := hid (fun W (hk : Keeps (fun _ => False) (w.alloc (.cells #[.int .i64 x.s, .int .u32 x.g] 37)) W) => cells2 (block_keep (alloc_new (w := w)) hk (fun h => h)))
  clear hv
  go_enter Tryz.func179, Tryz.ntmps179
  go_wp2_with fail
  obtain ⟨w1, hw1⟩ : ∃ w1, w.alloc (.cells #[.int .i64 x.s, .int .u32 x.g] 37) = w1 := ⟨_, rfl⟩
  have hk1 : Keeps (fun _ => False) w w1 := by rw [← hw1]; exact (Keeps.refl _ _).alloc _
  rw [hw1] at HQ ⊢
  have HK1 := hid hk1
  clear hw1 hk1
  go_loopw [8] (fun ix wr => ∃ k : Nat, k ≤ n ∧ ix = .int .i64 k ∧ x ∉ l.take k ∧ Keeps (fun _ => False) w1 wr) (fun ix _ => n - (intOf ix).toNat)
  case atStart => exact ⟨0, Nat.zero_le _, rfl, by simp, Keeps.refl _ _⟩
  case round =>
    obtain ⟨k, hk, rfl, hno, hkr⟩ := hrel
    have HKR := hid hkr; have HNO := hid hno
    by_cases hlt : k < n
    · obtain ⟨y, hy⟩ : ∃ y, l[k]? = some y := ⟨_, List.getElem?_eq_getElem (by omega)⟩
      obtain ⟨g, rfl, hg, c0, c1⟩ := HV.out wr (HK1.out.trans hkr) k y hy
      obtain ⟨b0, b1, _, bl⟩ := HQ.out wr hkr
      have hlt' : (k : Int) < (n : Int) := by omega
      have hk0 : (0 : Int) ≤ k := by omega
      have HY := hid hy
      have heql := fun W => eql_ref W x.s x.g y.s y.g
      simp only [Rf.eq_iff] at heql
      clear hkr hy hno
      by_cases hxy : x = y
      · rw [decide_eq_true hxy] at heql
        have HD := hid (show decide (x ∈ l) = true from decide_eq_true (by rw [hxy]; exact List.mem_of_getElem? HY.out))
        clear hxy
        go_wp2_with fail
        go_quiet (fail)
        go_wp2_with fail
        go_ret
        exact ⟨k, rfl, by rw [HD.out]; simp, HK1.out.trans (HKR.out.drewN _)⟩
      · rw [decide_eq_false hxy] at heql
        have HXY := hid hxy
        clear hxy
        go_wp2_with fail
        go_quiet (fail)
        go_wp2_with fail
        refine ⟨⟨k + 1, by omega, by go_num, ?_, HKR.out.drewN _⟩, by simp [intOf]; omega⟩
        intro hm
        rw [List.take_add_one, HY.out] at hm
        rcases List.mem_append.1 hm with hm | hm
        · exact HNO.out hm
        · simp at hm; exact HXY.out hm
    · have hlt' : ¬ (k : Int) < (n : Int) := by omega
      have HD := hid (show decide (x ∈ l) = false from decide_eq_false (fun h => hno (by rw [List.take_of_length_le (by omega)]; exact h)))
      clear hkr hno
      go_wp2_with fail
      go_ret
      exact ⟨-1, rfl, ⟨fun h => absurd h (by decide), fun h => absurd h (of_decide_eq_false HD.out)⟩, HK1.out.trans HKR.out⟩

theorem rcontains (v : Value) (l : List Rf) (x : Rf) (w : World) (hv : Refs w v l) (hb : l.length ≤ 65536) :
    Calls Tryz.prog 69 #[v, .agg #[.int .i64 x.s, .int .u32 x.g]] w fun e w' => e = .returned (.bool (decide (x ∈ l))) ∧ Keeps (fun _ => False) w w' := by
  have HI := hid (rindexv v l x _ (hv.keeps ((Keeps.refl (fun _ => False) w).alloc (.cells #[.int .i64 x.s, .int .u32 x.g] 37)) (fun _ _ h => h)) hb)
  clear hv
  go_enter Tryz.func69, Tryz.ntmps69
  go_wp2_with fail
  refine HI.out.mono ?_
  rintro e w1 ⟨k, rfl, hd, hk⟩
  have HD := hid hd; have HK := hid (((Keeps.refl (fun _ => False) w).alloc _).trans hk)
  clear hd hk
  go_wp2_with fail
  go_ret
  exact ⟨ret_bool HD.out, HK.out⟩

end Go.Proofs.YtiopnedplnoleaaGreat
