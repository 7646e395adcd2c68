/- estraylaw25: a Setup as the law's argument. -/
import Derived.Test.YtehmoikbeflkaaaGreatNgB
namespace Go.Proofs.YtehmoikbeflkaaaGreat
open Go.ChangeShapes Go.WideShapes Go.ChangeAt Go.RowKit Go.Deep
set_option linter.unusedVariables false

def ks5 : List Flat := [.int .u8, .int .u8, .int .u8, .int .u8, .int .u8]
theorem mvcell_of {w : World} {b o : Nat} (h : CellsAt w b o ks5) : ∃ x, MvCell w b o x := by
  obtain ⟨_, h0, k0⟩ := h 0 _ rfl
  obtain ⟨_, h1, k1⟩ := h 1 _ rfl
  obtain ⟨_, h2, k2⟩ := h 2 _ rfl
  obtain ⟨_, h3, k3⟩ := h 3 _ rfl
  obtain ⟨_, h4, k4⟩ := h 4 _ rfl
  obtain ⟨a0, rfl, l0⟩ := byte_of k0
  obtain ⟨a1, rfl, l1⟩ := byte_of k1
  obtain ⟨a2, rfl, l2⟩ := byte_of k2
  obtain ⟨a3, rfl, l3⟩ := byte_of k3
  obtain ⟨a4, rfl, l4⟩ := byte_of k4
  exact ⟨⟨a0, a1, a2, a3, a4⟩, ⟨l0, l1, l2, l3, l4⟩, h0, h1, h2, h3, h4⟩
theorem mvrow_of {w : World} {a : Option Addr} {len cap : Nat} (h1 : len ≤ cap) (h2 : cap ≤ maxLen) (h : len = 0 ∨ ∃ b off, a = some ⟨b, off, none⟩ ∧ b < w.heap.size ∧ ∀ i, i < len → CellsAt w b (off + i * ks5.length) ks5) :
    ∃ l, MvRow w (.slice a len cap) l := by
  rcases h with rfl | ⟨b, off, rfl, hb, hx⟩
  · exact ⟨[], a, cap, rfl, h1, h2, .inl rfl⟩
  · have hc : ∀ i : Nat, ∃ x, i < len → MvCell w b (off + i * 5) x := fun i => by
      by_cases hi : i < len
      · obtain ⟨x, hx⟩ := mvcell_of (hx i hi); exact ⟨x, fun _ => hx⟩
      · exact ⟨⟨0, 0, 0, 0, 0⟩, fun h => absurd h hi⟩
    obtain ⟨f, hf⟩ := Classical.axiomOfChoice hc
    refine ⟨(List.range len).map f, _, cap, by simp, by simpa using h1, h2, .inr ⟨b, off, rfl, hb, fun i x hi => ?_⟩⟩
    rw [List.getElem?_map] at hi
    by_cases hl : i < len
    · rw [List.getElem?_range hl] at hi
      simp only [Option.map_some, Option.some.injEq] at hi
      subst hi
      exact hf i hl
    · rw [List.getElem?_eq_none (by simpa using hl)] at hi
      cases hi
set_option maxRecDepth 100000 in
theorem setup25_shape {H : Type} {enc : TypeId × Value → H} {w : World} {base : Nat} {spare : Nat → Bool} {held : Bool} {r : Reach} {b0 : Nat} {v : Value} {d : DataW H} {p : List MemPlace} (hv : Value.okWide Tryz.prog w r b0 92 v)
    (h : DataW.Trod enc Tryz.prog w base spare held 92 v d p) : ∃ x y l mid, SetupAt w v x y l mid := by
  obtain ⟨cs, rfl, hs, hf⟩ := open_fields Tryz.underlying92 hv h
  have hs4 : cs.size = 4 := hs.trans (by kernel_rfl)
  obtain ⟨n0, x0, g0⟩ := hf 0 _ rfl
  have f0 : DataW.trod enc Tryz.prog w base spare held n0 5 ((cs.toList.drop 0).take (Tryz.prog.cellsOf 5)) = some x0 := g0
  obtain ⟨n1, x1, g1⟩ := hf 1 _ rfl
  have f1 : DataW.trod enc Tryz.prog w base spare held n1 5 ((cs.toList.drop 1).take (Tryz.prog.cellsOf 5)) = some x1 := g1
  obtain ⟨n2, x2, g2⟩ := hf 2 _ rfl
  have f2 : DataW.trod enc Tryz.prog w base spare held n2 90 ((cs.toList.drop 2).take (Tryz.prog.cellsOf 90)) = some x2 := g2
  obtain ⟨n3, x3, g3⟩ := hf 3 _ rfl
  have f3 : DataW.trod enc Tryz.prog w base spare held n3 90 ((cs.toList.drop 3).take (Tryz.prog.cellsOf 90)) = some x3 := g3
  have c1 : Tryz.prog.cellsOf 5 = 1 := by kernel_rfl
  have c2 : Tryz.prog.cellsOf 90 = 1 := by kernel_rfl
  rw [c1] at f0 f1
  rw [c2] at f2 f3
  obtain ⟨_, hu0, hk0⟩ := flat_at 8 5 [.int .u8] (by kernel_rfl) _ _ _ f0 0 _ rfl
  obtain ⟨_, hu1, hk1⟩ := flat_at 8 5 [.int .u8] (by kernel_rfl) _ _ _ f1 0 _ rfl
  obtain ⟨a, rfl, ha⟩ := byte_of hk0
  obtain ⟨b, rfl, hb⟩ := byte_of hk1
  obtain ⟨a2, l2, k2, e2, h2, h2', h2x⟩ := open_flat_slice_at (ks := ks5) Tryz.underlying90 (by kernel_rfl) (by kernel_rfl) (by decide) f2
  obtain ⟨a3, l3, k3, e3, h3, h3', h3x⟩ := open_flat_slice_at (ks := ks5) Tryz.underlying90 (by kernel_rfl) (by kernel_rfl) (by decide) f3
  obtain ⟨wl, hwl⟩ := mvrow_of h2 h2' h2x
  obtain ⟨ml, hml⟩ := mvrow_of h3 h3' h3x
  refine ⟨a, b, wl, ml, ha, hb, _, _, ?_, hwl, hml⟩
  clear g0 g1 g2 g3
  have g0 : cs[0]? = some (.int .u8 a) := by simpa using hu0
  have g1 : cs[1]? = some (.int .u8 b) := by simpa using hu1
  have g2 : cs[2]? = some (.slice a2 l2 k2) := by
    have := congrArg (fun l => l[0]?) e2
    simpa using this
  have g3 : cs[3]? = some (.slice a3 l3 k3) := by
    have := congrArg (fun l => l[0]?) e3
    simpa using this
  refine congrArg Value.agg (arr_eq (l := [.int .u8 a, .int .u8 b, .slice a2 l2 k2, .slice a3 l3 k3]) hs4 (fun i u hu => ?_))
  match i, hu with
  | 0, hu => rw [g0]; exact hu
  | 1, hu => rw [g1]; exact hu
  | 2, hu => rw [g2]; exact hu
  | 3, hu => rw [g3]; exact hu
  | n + 4, hu => simp at hu
end Go.Proofs.YtehmoikbeflkaaaGreat
