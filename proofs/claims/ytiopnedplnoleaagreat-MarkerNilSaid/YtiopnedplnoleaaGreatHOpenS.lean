/- An argument that is a struct of flat fields, as its cells. -/
import Derived.Test.YtiopnedplnoleaaGreatHOpen
namespace Go.Proofs.YtiopnedplnoleaaGreat
open Go.ChangeShapes Go.WideShapes Go.ChangeAt Go.RowKit Go.Deep

section
variable {H : Type} {enc : TypeId × Value → H} {P : Program} {w : World} {base : Nat} {spare : Nat → Bool} {held : Bool}

theorem open_flat_struct {t : TypeId} {fs : Array Field} {ks : List Flat} {r : Reach} {b0 : Nat} {v : Value} {d : DataW H} {p : List MemPlace} (ht : P.underlying t = some (.struct fs)) (hfl : flat P 8 t = some ks) (hC : P.cellsOf t = ks.length)
    (hv : Value.okWide P w r b0 t v) (h : DataW.Trod enc P w base spare held t v d p) : ∃ cs, v = .agg cs ∧ cs.size = ks.length ∧ ∀ (i : Nat) (k : Flat), ks[i]? = some k → ∃ u, cs[i]? = some u ∧ k.Ok u := by
  obtain ⟨cs, rfl, hs⟩ := okWide_struct ht hv
  obtain ⟨fuel, hf⟩ := h
  refine ⟨cs, rfl, hs.trans hC, fun i k hk => ?_⟩
  obtain ⟨u, hu, hok⟩ := flat_at 8 t ks hfl _ _ _ hf i k hk
  refine ⟨u, ?_, hok⟩
  simpa [Value.cells] using hu
end

theorem arr_eq {cs : Array Value} {l : List Value} (hs : cs.size = l.length) (h : ∀ (i : Nat) (u : Value), l[i]? = some u → cs[i]? = some u) : cs = l.toArray := by
  apply Array.ext_getElem?
  intro i
  by_cases hi : i < l.length
  · have := h i _ (List.getElem?_eq_getElem hi)
    rw [this]; simp [hi]
  · rw [Array.getElem?_eq_none (by omega)]; simp; omega

end Go.Proofs.YtiopnedplnoleaaGreat
