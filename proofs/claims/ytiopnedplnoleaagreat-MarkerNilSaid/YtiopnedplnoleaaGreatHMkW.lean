/- estraylaw24: MarkerNil, of whatever step. -/
import Derived.Test.YtiopnedplnoleaaGreatMgQ
import Derived.Test.YtiopnedplnoleaaGreatHOpenS
namespace Go.Proofs.YtiopnedplnoleaaGreat
open Go.ChangeShapes Go.WideShapes Go.ChangeAt Go.RowKit Go.Deep

set_option maxRecDepth 100000 in
theorem move24_shape {H : Type} {enc : TypeId × Value → H} {w : World} {base : Nat} {spare : Nat → Bool} {held : Bool} {r : Reach} {b0 : Nat} {v : Value} {d : DataW H} {p : List MemPlace} (hv : Value.okWide Tryz.prog w r b0 45 v)
    (h : DataW.Trod enc Tryz.prog w base spare held 45 v d p) : ∃ (a0 a1 a2 a3 a4 : Int) (r q : Rf), v = .agg #[.int .i64 a0, .int .i64 a1, .int .i64 a2, .int .i64 a3, .int .i64 a4, .int .i64 r.s, .int .u32 r.g, .int .i64 q.s, .int .u32 q.g] := by
  obtain ⟨cs, rfl, hs, hc⟩ := open_flat_struct (ks := [.int .i64, .int .i64, .int .i64, .int .i64, .int .i64, .int .i64, .int .u32, .int .i64, .int .u32]) Tryz.underlying45 (by kernel_rfl) (by kernel_rfl) hv h
  obtain ⟨_, h0, a0, rfl, _⟩ := hc 0 _ rfl
  obtain ⟨_, h1, a1, rfl, _⟩ := hc 1 _ rfl
  obtain ⟨_, h2, a2, rfl, _⟩ := hc 2 _ rfl
  obtain ⟨_, h3, a3, rfl, _⟩ := hc 3 _ rfl
  obtain ⟨_, h4, a4, rfl, _⟩ := hc 4 _ rfl
  obtain ⟨_, h5, a5, rfl, _⟩ := hc 5 _ rfl
  obtain ⟨_, h6, a6, rfl, _⟩ := hc 6 _ rfl
  obtain ⟨_, h7, a7, rfl, _⟩ := hc 7 _ rfl
  obtain ⟨_, h8, a8, rfl, _⟩ := hc 8 _ rfl
  refine ⟨a0, a1, a2, a3, a4, ⟨a5, a6⟩, ⟨a7, a8⟩, congrArg Value.agg (arr_eq (l := [.int .i64 a0, .int .i64 a1, .int .i64 a2, .int .i64 a3, .int .i64 a4, .int .i64 a5, .int .u32 a6, .int .i64 a7, .int .u32 a8]) hs (fun i u hu => ?_))⟩
  match i, hu with
  | 0, hu => rw [h0]; exact hu
  | 1, hu => rw [h1]; exact hu
  | 2, hu => rw [h2]; exact hu
  | 3, hu => rw [h3]; exact hu
  | 4, hu => rw [h4]; exact hu
  | 5, hu => rw [h5]; exact hu
  | 6, hu => rw [h6]; exact hu
  | 7, hu => rw [h7]; exact hu
  | 8, hu => rw [h8]; exact hu
  | n + 9, hu => simp at hu

set_option maxRecDepth 100000 in
theorem markerNil_law {H : Type} {enc : TypeId × Value → H} {base : Nat} {spare : Nat → Bool} {held : Bool} {r : Reach} {b0 : Nat} (v : Value) (d : DataW H) (p : List MemPlace) {w : World} (hv : Value.okWide Tryz.prog w r b0 45 v)
    (h : DataW.Trod enc Tryz.prog w base spare held 45 v d p) (w' : World) (_ : w' = w) : Calls Tryz.prog 4 #[v] w' fun e w2 => e = .returned (.bool true) ∧ Keeps (fun _ => False) w' w2 := by
  obtain ⟨a0, a1, a2, a3, a4, r, q, rfl⟩ := move24_shape hv h
  exact markerNil_walk a0 a1 a2 a3 a4 r q w'

end Go.Proofs.YtiopnedplnoleaaGreat
