/- Package arena: Object of any name. -/
import Derived.Test.YtiopnedplnoleaaGreatMgU
namespace Go.Proofs.YtiopnedplnoleaaGreat
open Go.RowKit
set_option linter.unusedVariables false
set_option linter.unusedSimpArgs false

set_option maxRecDepth 100000 in
set_option maxHeartbeats 1000000 in
theorem aobject_of (a : Nat) (LA : ArL) (A : Ar) (r : Rf) (o : Ob) (k : Int) (w : World) (h : ArIn w a LA A)
    (hob : ∀ W, HpAt W LA.b LA.t A.H → Calls Tryz.prog 279 #[.pointer (some ⟨LA.b, 0, none⟩), .agg #[.int .i64 r.s, .int .u32 r.g]] W fun e w' => e = .returned (.tuple #[.agg o.arr, .int .i64 k]) ∧ Keeps (fun _ => False) W w') :
    Calls Tryz.prog 178 #[.pointer (some ⟨a, 0, none⟩), .agg #[.int .i64 r.s, .int .u32 r.g]] w fun e w' => e = .returned (.tuple #[.agg o.arr, .int .i64 k]) ∧ Keeps (fun _ => False) w w' := by
  have HF := hid (fun W (hk : Keeps (fun y => w.heap.size ≤ y) w W) => And.intro ((h.keepsF hk (fun _ h => h)).c0) (And.intro (cells1 (h.keepsF hk (fun _ h => h)).obj).1 (h.keepsF hk (fun _ h => h)).heap))
  have HOB := hid hob
  clear h hob
  have q0 := alloc_old (o := .cells (Ob.new 0 false).arr 237) (alloc_new (w := w) (o := .cells #[.int .i64 r.s, .int .u32 r.g] 37))
  have q1 := alloc_new' (w := w.alloc (.cells #[.int .i64 r.s, .int .u32 r.g] 37)) (n := w.heap.size + 1) (o := .cells (Ob.new 0 false).arr 237) (by simp)
  obtain ⟨w0, hw0⟩ : ∃ w0, (w.alloc (.cells #[.int .i64 r.s, .int .u32 r.g] 37)).alloc (.cells (Ob.new 0 false).arr 237) = w0 := ⟨_, rfl⟩
  have k0 : Keeps (fun _ => False) w w0 := by rw [← hw0]; exact ((Keeps.refl _ _).alloc _).alloc _
  rw [hw0] at q0 q1
  have HQ0 := hid q0; have HQ1 := hid q1; have HK0 := hid (show Keeps (fun y => w.heap.size ≤ y) w w0 from k0.up)
  have HFF := hid (fun W (hk : Keeps (fun y => y = w.heap.size + 1) w0 W) => show W.cell? ⟨a, 0, none⟩ = some (.pointer (some ⟨LA.o, 0, none⟩)) ∧ W.cell? ⟨LA.o, 0, none⟩ = some (.pointer (some ⟨LA.b, 0, none⟩)) ∧ W.cell? ⟨w.heap.size, 0, none⟩ = some (.int .i64 r.s) ∧ W.cell? ⟨w.heap.size, 1, none⟩ = some (.int .u32 r.g) from by
    obtain ⟨g1, g2, _⟩ := HF.out W (HK0.out.trans (hk.mono (fun y _ h => by omega)))
    obtain ⟨g3, g4, _⟩ := cells2 (block_keep HQ0.out hk (by omega))
    exact ⟨g1, g2, g3, g4⟩)
  obtain ⟨c0, c1, _⟩ := HF.out w0 HK0.out
  obtain ⟨e0, e1, _, _⟩ := cells2 q0
  clear k0 q0 q1
  simp only [Ob.arr, Ob.new, Rf.no] at hw0
  go_enter Tryz.func178, Tryz.ntmps178
  go_wp2_with fail
  clear hw0
  refine ((avalid a LA.o _ c0)).mono ?_
  rintro e w' ⟨rfl, h'⟩
  obtain rfl := h'.symm
  go_wp2_with fail
  go_region_held3 (fun W => W.cell? ⟨a, 0, none⟩ = some (.pointer (some ⟨LA.o, 0, none⟩)) ∧ W.cell? ⟨LA.o, 0, none⟩ = some (.pointer (some ⟨LA.b, 0, none⟩)) ∧ W.cell? ⟨w.heap.size, 0, none⟩ = some (.int .i64 r.s) ∧ W.cell? ⟨w.heap.size, 1, none⟩ = some (.int .u32 r.g))
    ((refine HFF.out _ ?_; (repeat (first | with_reducible exact Keeps.refl _ _ | with_reducible refine Keeps.alloc ?_ _ | with_reducible refine Keeps.drew ?_ | with_reducible refine Keeps.setCell ?_ (.inl ?_) _ | with_reducible refine Keeps.trans ?_ (Keeps.up (by with_reducible assumption)))) <;> rfl))
    (first | (go_at_call 279; refine (HOB.out _ ((HF.out _ HK0.out.drew).2.2)).mono ?_; rintro e w4 ⟨rfl, hk4⟩; have hk5 := (Keeps.drew (Keeps.refl (fun _ => False) w0)).trans hk4; have q5 := block_keep HQ1.out hk5 (fun h => h); obtain ⟨d0, d1, d2, d3, d4, d5, d6, d7, d8, d9, df, dl⟩ := cells10 q5; have f0 := df 0; have f1 := df 1; have f2 := df 2; have f3 := df 3; have f4 := df 4; have f5 := df 5; have f6 := df 6; have f7 := df 7; have f8 := df 8; have f9 := df 9; simp only [Ob.arr]))
  all_goals
    go_wp2_with fail
    refine bodyPost_ret_by (v := .tuple #[.agg o.arr, .int .i64 k]) (by simp [results, Tryz.results178, go_sem, Ob.arr, *]) rfl ⟨rfl, ?_⟩
    refine Keeps.fresh ?_
    with_reducible exact keeps10_0 (HK0.out.trans hk5.up) (b := w.heap.size + 1) (.inl (by omega)) _ _ _ _ _ _ _ _ _ _

/-- Object of any name -/
theorem aobject_any (a : Nat) (LA : ArL) (A : Ar) (r : Rf) (w : World) (h : ArIn w a LA A) : ∃ (o : Ob) (k : Int), ((k = 0 ∧ ckV A.H.T r.s r.g = 0 ∧ o = A.H.ob r.s.toNat) ∨ ((k == 0) = false ∧ ckV A.H.T r.s r.g = k ∧ o = Ob.new 0 false)) ∧
    Calls Tryz.prog 178 #[.pointer (some ⟨a, 0, none⟩), .agg #[.int .i64 r.s, .int .u32 r.g]] w fun e w' => e = .returned (.tuple #[.agg o.arr, .int .i64 k]) ∧ Keeps (fun _ => False) w w' := by
  by_cases hc : ckV A.H.T r.s r.g = 0
  · refine ⟨_, 0, .inl ⟨rfl, hc, rfl⟩, aobject_of a LA A r _ 0 w h (fun W hW => ?_)⟩
    obtain ⟨i, e1, e2, e3, e4⟩ := ckV_ok hc
    rw [show r.s.toNat = i by omega, e1]
    rw [e1] at hc
    exact hobject_ok LA.b LA.t A.H i r.g W hW hc
  · exact ⟨_, _, .inr ⟨by simpa using hc, rfl, rfl⟩, aobject_of a LA A r _ _ w h (fun W hW => hobject_bad LA.b LA.t A.H r.s r.g W hW hc)⟩

end Go.Proofs.YtiopnedplnoleaaGreat
