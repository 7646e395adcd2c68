/- Copies of clocks, buffers, stacks of roots, global variables. -/
import Derived.Test.YtlgibhfeldlbiaaGreatMgK
import Derived.Test.YtlgibhfeldlbiaaGreatCgA
namespace Go.Proofs.YtlgibhfeldlbiaaGreat
open Go.RowKit
set_option linter.unusedVariables false

theorem all_one {c : Array Value} (h : ∀ i, i < c.size → ∃ v, c[i]? = some v ∧ v.oneCell' = true) : c.all (·.oneCell') = true := by
  rw [Array.all_eq_true]
  intro i hi
  obtain ⟨v, hv, h1⟩ := h i hi
  obtain ⟨_, hx⟩ := Array.getElem?_eq_some_iff.1 hv
  rw [hx]; exact h1
theorem Rfs.one2 {c : Array Value} {off m : Nat} {f : Nat → Rf} (h : Rfs c off m f) {i : Nat} (h0 : off ≤ i) (h1 : i < off + m * 2) : ∃ v, c[i]? = some v ∧ v.oneCell' = true := by
  obtain ⟨a, b⟩ := h ((i - off) / 2) (by omega)
  by_cases e : (i - off) % 2 = 0
  · rw [show off + (i - off) / 2 * 2 = i by omega] at a
    exact ⟨_, a, rfl⟩
  · rw [show off + (i - off) / 2 * 2 + 1 = i by omega] at b
    exact ⟨_, b, rfl⟩
theorem BfC.one {c : Array Value} {B : Bf} (h : BfC c B) : c.all (·.oneCell') = true := all_one fun i hi => by
  rw [h.sz] at hi
  by_cases h1 : i < 64
  · exact ⟨_, h.row i h1, rfl⟩
  · have : i = 64 ∨ i = 65 ∨ i = 66 ∨ i = 67 := by omega
    rcases this with rfl | rfl | rfl | rfl
    · exact ⟨_, h.size, rfl⟩
    · exact ⟨_, h.from', rfl⟩
    · exact ⟨_, h.n, rfl⟩
    · exact ⟨_, h.whole, rfl⟩
theorem StC.one {c : Array Value} {S : Sk} (h : StC c S) : c.all (·.oneCell') = true := all_one fun i hi => by
  rw [h.size] at hi
  by_cases h0 : i = 0
  · subst h0; exact ⟨_, h.made, rfl⟩
  by_cases h1 : i = 1
  · subst h1; exact ⟨_, h.len, rfl⟩
  · exact h.row.one2 (by omega) (by omega)
theorem GlC.one {c : Array Value} {f : Nat → Rf} (h : GlC c f) : c.all (·.oneCell') = true := all_one fun i hi => by
  rw [h.size] at hi
  by_cases h0 : i = 0
  · subst h0; exact ⟨_, h.made, rfl⟩
  · exact h.row.one2 (by omega) (by omega)

set_option maxRecDepth 100000 in
theorem bcopy_ok (b : Nat) (B : Bf) (w : World) (h : BfAt w b B) :
    Calls Tryz.prog 227 #[.pointer (some ⟨b, 0, none⟩)] w fun e w' => e = .returned (.pointer (some ⟨w.heap.size, 0, none⟩)) ∧ Keeps (fun _ => False) w w' ∧ BfAt w' w.heap.size B := by
  have HV := hid (bmade b B w h)
  obtain ⟨c, hb, hc⟩ := h
  have hs := hc.sz
  have HB := hid hb; clear hb
  have HI := hid (show (Tryz.prog.info? 366).map (·.size) = some c.size by rw [hs]; kernel_rfl)
  have hst : ∀ w' : World, Sem.run Tryz.prog (storeCells ⟨w'.heap.size, 0, none⟩ c.toList) (w'.alloc (.cells Tryz.zeroCells366 366)) = .ok () (w'.alloc (.cells c 366)) :=
    fun w' => run_storeCells_new w' _ _ c HI.out (by rw [Tryz.zeroCells366_size, hs]) hc.one
  have HC := hid hc; clear hc
  have HS := hid hs; clear hs
  go_enter Tryz.func227, Tryz.ntmps227
  go_wp2_with fail
  refine (HV.out).mono ?_
  rintro e w' ⟨rfl, h'⟩
  obtain rfl := h'.symm
  go_wp2_with (with_reducible refine wpList_load_row rfl _ _ rfl b rfl _ c _ _ HB.out Tryz.underlying366 rfl HI.out ?_)
  go_ret
  exact ⟨rfl, (Keeps.refl _ _).alloc _, c, alloc_new, HC.out⟩

set_option maxRecDepth 100000 in
theorem rcopy_ok (b : Nat) (S : Sk) (w : World) (h : StAt w b S) :
    Calls Tryz.prog 223 #[.pointer (some ⟨b, 0, none⟩)] w fun e w' => e = .returned (.pointer (some ⟨w.heap.size, 0, none⟩)) ∧ Keeps (fun _ => False) w w' ∧ StAt w' w.heap.size S := by
  obtain ⟨c, hb, hc⟩ := h
  have HV := hid (rvalid b w (cell_at hb hc.made))
  have hs := hc.size
  have HB := hid hb; clear hb
  have HI := hid (show (Tryz.prog.info? 344).map (·.size) = some c.size by rw [hs]; kernel_rfl)
  have hst : ∀ w' : World, Sem.run Tryz.prog (storeCells ⟨w'.heap.size, 0, none⟩ c.toList) (w'.alloc (.cells Tryz.zeroCells344 344)) = .ok () (w'.alloc (.cells c 344)) :=
    fun w' => run_storeCells_new w' _ _ c HI.out (by rw [Tryz.zeroCells344_size, hs]) hc.one
  have HC := hid hc; clear hc
  have HS := hid hs; clear hs
  go_enter Tryz.func223, Tryz.ntmps223
  go_wp2_with fail
  refine (HV.out).mono ?_
  rintro e w' ⟨rfl, h'⟩
  obtain rfl := h'.symm
  go_wp2_with (with_reducible refine wpList_load_row rfl _ _ rfl b rfl _ c _ _ HB.out Tryz.underlying344 rfl HI.out ?_)
  go_ret
  exact ⟨rfl, (Keeps.refl _ _).alloc _, c, alloc_new, HC.out⟩

set_option maxRecDepth 100000 in
theorem glcopy_ok (b : Nat) (f : Nat → Rf) (w : World) (h : GlAt w b f) :
    Calls Tryz.prog 222 #[.pointer (some ⟨b, 0, none⟩)] w fun e w' => e = .returned (.pointer (some ⟨w.heap.size, 0, none⟩)) ∧ Keeps (fun _ => False) w w' ∧ GlAt w' w.heap.size f := by
  obtain ⟨c, hb, hc⟩ := h
  have HC := hid hc
  obtain rfl : c = [Value.bool true, Value.int .i64 (f 0).s, Value.int .u32 (f 0).g, Value.int .i64 (f 1).s, Value.int .u32 (f 1).g, Value.int .i64 (f 2).s, Value.int .u32 (f 2).g, Value.int .i64 (f 3).s, Value.int .u32 (f 3).g, Value.int .i64 (f 4).s, Value.int .u32 (f 4).g, Value.int .i64 (f 5).s, Value.int .u32 (f 5).g, Value.int .i64 (f 6).s, Value.int .u32 (f 6).g, Value.int .i64 (f 7).s, Value.int .u32 (f 7).g].toArray := arr_eq (l := [Value.bool true, Value.int .i64 (f 0).s, Value.int .u32 (f 0).g, Value.int .i64 (f 1).s, Value.int .u32 (f 1).g, Value.int .i64 (f 2).s, Value.int .u32 (f 2).g, Value.int .i64 (f 3).s, Value.int .u32 (f 3).g, Value.int .i64 (f 4).s, Value.int .u32 (f 4).g, Value.int .i64 (f 5).s, Value.int .u32 (f 5).g, Value.int .i64 (f 6).s, Value.int .u32 (f 6).g, Value.int .i64 (f 7).s, Value.int .u32 (f 7).g]) (by rw [hc.size]; rfl) (fun i u hu => by
    match i, hu with
    | 0, hu => rw [← hu]; exact hc.made
    | 1, hu => rw [← hu]; exact (hc.row 0 (by omega)).1
    | 2, hu => rw [← hu]; exact (hc.row 0 (by omega)).2
    | 3, hu => rw [← hu]; exact (hc.row 1 (by omega)).1
    | 4, hu => rw [← hu]; exact (hc.row 1 (by omega)).2
    | 5, hu => rw [← hu]; exact (hc.row 2 (by omega)).1
    | 6, hu => rw [← hu]; exact (hc.row 2 (by omega)).2
    | 7, hu => rw [← hu]; exact (hc.row 3 (by omega)).1
    | 8, hu => rw [← hu]; exact (hc.row 3 (by omega)).2
    | 9, hu => rw [← hu]; exact (hc.row 4 (by omega)).1
    | 10, hu => rw [← hu]; exact (hc.row 4 (by omega)).2
    | 11, hu => rw [← hu]; exact (hc.row 5 (by omega)).1
    | 12, hu => rw [← hu]; exact (hc.row 5 (by omega)).2
    | 13, hu => rw [← hu]; exact (hc.row 6 (by omega)).1
    | 14, hu => rw [← hu]; exact (hc.row 6 (by omega)).2
    | 15, hu => rw [← hu]; exact (hc.row 7 (by omega)).1
    | 16, hu => rw [← hu]; exact (hc.row 7 (by omega)).2
    | k + 17, hu => simp at hu)
  have hbl := lt_block hb
  have hcl : ∀ i, w.cell? ⟨b, i, none⟩ = _ := fun i => cell_block hb i
  have c0 := cell_at (i := 0) hb rfl
  have c1 := cell_at (i := 1) hb rfl
  have c2 := cell_at (i := 2) hb rfl
  have c3 := cell_at (i := 3) hb rfl
  have c4 := cell_at (i := 4) hb rfl
  have c5 := cell_at (i := 5) hb rfl
  have c6 := cell_at (i := 6) hb rfl
  have c7 := cell_at (i := 7) hb rfl
  have c8 := cell_at (i := 8) hb rfl
  have c9 := cell_at (i := 9) hb rfl
  have c10 := cell_at (i := 10) hb rfl
  have c11 := cell_at (i := 11) hb rfl
  have c12 := cell_at (i := 12) hb rfl
  have c13 := cell_at (i := 13) hb rfl
  have c14 := cell_at (i := 14) hb rfl
  have c15 := cell_at (i := 15) hb rfl
  have c16 := cell_at (i := 16) hb rfl
  clear hb hc hcl
  go_enter Tryz.func222, Tryz.ntmps222
  go_wp2_with fail
  go_ret
  exact ⟨rfl, (Keeps.refl _ _).alloc _, _, alloc_new, HC.out⟩

theorem phcopy_ok (b : Nat) (K : Ck) (w : World) (h : CkAt w b K) :
    Calls Tryz.prog 224 #[.pointer (some ⟨b, 0, none⟩)] w fun e w' => e = .returned (.pointer (some ⟨w.heap.size, 0, none⟩)) ∧ Keeps (fun _ => False) w w' ∧ CkAt w' w.heap.size K := by
  have HV := hid (ph_valid b K w h)
  have HH := hid h
  obtain ⟨c0, c1, c2, c3, c4, c5, c6, c7, c8, c9, c10, cl⟩ := cells11 (by simpa only [Ck.arr] using h.own)
  clear h
  go_enter Tryz.func224, Tryz.ntmps224
  go_wp2_with fail
  refine (HV.out).mono ?_
  rintro e w' ⟨rfl, h'⟩
  obtain rfl := h'.symm
  go_wp2_with fail
  go_ret
  exact ⟨rfl, (Keeps.refl _ _).alloc _, ⟨alloc_new, HH.out.m1, HH.out.m4, HH.out.p5⟩⟩

end Go.Proofs.YtlgibhfeldlbiaaGreat
