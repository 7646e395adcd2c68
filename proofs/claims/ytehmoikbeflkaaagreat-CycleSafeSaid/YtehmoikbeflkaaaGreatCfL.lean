/- Rows of names apart from what is found (for CycleSafe). -/
import Derived.Test.YtehmoikbeflkaaaGreatCyM
import Derived.Test.YtehmoikbeflkaaaGreatRcM
namespace Go.Proofs.YtehmoikbeflkaaaGreat
open Go.RowKit
set_option linter.unusedVariables false
set_option linter.unusedSimpArgs false
set_option linter.unusedSectionVars false

section
variable {w0 w w' : World} {p a m b c : Nat} {LA : ArL} {LM : MkL} {k : Col} {f L : List Rf} {v : Value}
structure Lsf (w : World) (p : Nat) (v : Value) (L : List Rf) : Prop where
  refs : Refs w v L
  ap : ∀ y u, v.ownBlock = some y → w.cell? ⟨p, 2, none⟩ = some u → u.ownBlock ≠ some y
theorem Lsf.same (h : Lsf w p v L) (hp : Pair w0 w p a m b c LA LM k f) (hk : Keeps (fun _ => False) w w') : Lsf w' p v L := by
  refine ⟨h.refs.keeps hk (fun _ _ h => h), fun y u hy hu => ?_⟩
  obtain ⟨u2, h2⟩ := hp.c2
  obtain ⟨u3, h3, _⟩ := hp.ex
  have hpl := lt_block h3
  have e : w'.cell? ⟨p, 2, none⟩ = some u2 := (World.cell?_of_block (w := w) (w' := w') (a := ⟨p, 2, none⟩) (hk.block p hpl (fun h => h))).trans h2
  obtain rfl := Option.some.inj (hu.symm.trans e)
  exact h.ap y u hy h2
theorem Lsf.pk (h : Lsf w p v L) (hp : Pair w0 w p a m b c LA LM k f) (hk : PKeep w w' p (foot3 LA LM b c k.s)) : Lsf w' p v L := by
  obtain ⟨hr, hap⟩ := h
  rcases hr with ⟨rfl, rfl⟩ | ⟨g, cap, cur, rfl, hg, hc⟩
  · exact ⟨.inl ⟨rfl, rfl⟩, fun y u hy => by cases hy⟩
  · obtain ⟨u3, h3, _⟩ := hp.ex
    obtain ⟨b1, b2⟩ := hk.block hg (hp.q.rowfoot hg) (type_ne hg h3 (by decide)) (fun v hv => hap g v rfl hv)
    refine ⟨.inr ⟨g, cap, cur, rfl, b1, hc⟩, fun y u hy hu => ?_⟩
    obtain rfl : g = y := Option.some.inj hy
    exact b2 u hu
theorem cell_keepF {b k : Nat} {u : Value} (h : w.cell? ⟨b, k, none⟩ = some u) (hb : b < w.heap.size) (hk : Keeps (fun _ => False) w w') : w'.cell? ⟨b, k, none⟩ = some u :=
  (World.cell?_of_block (w := w) (w' := w') (a := ⟨b, k, none⟩) (hk.block b hb (fun h => h))).trans h
end

theorem u8_natF {x : Int} (h : (Lit.int .u8 x).wf = true) : ∃ k : Nat, x = k ∧ k < 256 := by
  have e1 : IntKind.u8.min = 0 := by decide
  have e2 : IntKind.u8.max = 255 := by decide
  simp [Lit.wf, e1, e2] at h
  exact ⟨x.toNat, by omega, by omega⟩
end Go.Proofs.YtehmoikbeflkaaaGreat
