/- Package cycle: a collector in memory. -/
import Derived.Test.YtcpljmonmchloaaGreatCyA
import Derived.Test.YtcpljmonmchloaaGreatKqA
namespace Go.Proofs.YtcpljmonmchloaaGreat
open Go.RowKit
set_option linter.unusedVariables false
set_option linter.unusedSimpArgs false
set_option linter.unusedSectionVars false

theorem Both.not_foot {w0 w : World} {a m : Nat} {LA : ArL} {LM : MkL} {s : Sys} (h : Both w0 w a m LA LM s) {x : Nat} {cs : Array Value} {t : TypeId} (hx : w.heap[x]? = some (.cells cs t)) (h1 : 32 ≠ t) (h2 : 309 ≠ t) (h3 : 245 ≠ t) (h4 : 248 ≠ t)
    (h5 : 277 ≠ t) (h6 : 282 ≠ t) (h7 : 287 ≠ t) (h8 : 289 ≠ t) : ¬ foot2 LA LM s x := by
  obtain ⟨ha, hm, _, _⟩ := h
  obtain ⟨_, _, hhp, ⟨cg, hcg, _⟩, hst, _⟩ := ha
  obtain ⟨⟨cy, hcy, _⟩, ⟨cz, hcz, _⟩, _, _⟩ := hhp
  obtain ⟨_, _, ek, ⟨ep, hep, _⟩, ⟨es, hes, _⟩, eb, _⟩ := hm
  rintro (h | h)
  · rcases h with h | h | h | ⟨k, hk, h⟩
    · exact type_ne hcy hx h1 h.symm
    · exact type_ne hcz hx h2 h.symm
    · exact type_ne hcg hx h3 h.symm
    · obtain ⟨c, hc, _⟩ := hst k hk; exact type_ne hc hx h4 h.symm
  · rcases h with h | h | h | ⟨k, hk, h⟩
    · exact type_ne ek.own hx h5 h.symm
    · exact type_ne hep hx h6 h.symm
    · exact type_ne hes hx h7 h.symm
    · obtain ⟨c, hc, _⟩ := eb k hk; exact type_ne hc hx h8 h.symm
section
variable {w0 w w' : World} {a m b c : Nat} {LA : ArL} {LM : MkL} {k : Col}

end
end Go.Proofs.YtcpljmonmchloaaGreat

/- Package cycle: steps by phases. -/
namespace Go.Proofs.YtcpljmonmchloaaGreat
open Go.RowKit
set_option linter.unusedVariables false
set_option linter.unusedSimpArgs false
set_option linter.unusedSectionVars false

variable {w0 w w' : World} {a m b c : Nat} {LA : ArL} {LM : MkL} {k : Col}

theorem kfin {S : Nat → Prop} {w wA : World} {N : Nat} (hk : Keeps S w wA) (hN : w.heap.size ≤ N) (u v : Value) : Keeps S w ((wA.setCell ⟨N, 0, none⟩ u).setCell ⟨N, 1, none⟩ v) :=
  (hk.setCell (p := ⟨N, 0, none⟩) (.inr hN) u).setCell (p := ⟨N, 1, none⟩) (.inr hN) v
theorem kfin0 (wA : World) (N : Nat) (u v : Value) : Keeps (fun y => N ≤ y) wA ((wA.setCell ⟨N, 0, none⟩ u).setCell ⟨N, 1, none⟩ v) :=
  ((Keeps.refl (fun y => N ≤ y) wA).setCell (p := ⟨N, 0, none⟩) (.inl (Nat.le_refl _)) u).setCell (p := ⟨N, 1, none⟩) (.inl (Nat.le_refl _)) v
/- the object in a slot, and whether it is a handle that is not marked -/
end Go.Proofs.YtcpljmonmchloaaGreat

/- Package cycle: discover, sweep; Step. -/
namespace Go.Proofs.YtcpljmonmchloaaGreat
open Go.RowKit
set_option linter.unusedVariables false
set_option linter.unusedSimpArgs false
set_option linter.unusedSectionVars false

variable {w0 w w' : World} {a m b c : Nat} {LA : ArL} {LM : MkL} {k : Col}

end Go.Proofs.YtcpljmonmchloaaGreat
