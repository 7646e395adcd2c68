/- estraylaw25: begun. -/
import Derived.Test.YtaikgklbafkalaaGreatNgC
import Derived.Test.YtaikgklbafkalaaGreatNgB
import Derived.Test.YtaikgklbafkalaaGreatNgD
namespace Go.Proofs.YtaikgklbafkalaaGreat
open Go.RowKit
set_option linter.unusedVariables false
set_option linter.unusedSimpArgs false

structure Trio (w0 w : World) (a m b : Nat) (LA : ArL) (LM : MkL) (s : Sys) (S : Sw) : Prop where
  both : Both w0 w a m LA LM s
  sw : SwAt w b S
  hb : w0.heap.size ≤ b
theorem Trio.same {w0 w w' : World} {a m b : Nat} {LA : ArL} {LM : MkL} {s : Sys} {S : Sw} (h : Trio w0 w a m b LA LM s S) (hk : Keeps (fun _ => False) w w') : Trio w0 w' a m b LA LM s S :=
  ⟨Duo.same h.both hk, h.sw.keeps hk (fun h => h), h.hb⟩
theorem Trio.far {w0 w w' : World} {a m b : Nat} {LA : ArL} {LM : MkL} {s : Sys} {S : Sw} (h : Trio w0 w a m b LA LM s S) (hk : Keeps (fun y => y = b) w w') {S' : Sw} (hs : SwAt w' b S') : Trio w0 w' a m b LA LM s S' :=
  ⟨Both.sw h.both h.sw hk h.hb, hs, h.hb⟩
theorem Trio.kp {w0 w : World} {a m b : Nat} {LA : ArL} {LM : MkL} {s : Sys} {S : Sw} (h : Trio w0 w a m b LA LM s S) : Keeps (fun _ => False) w0 w := Duo.kp h.both
end Go.Proofs.YtaikgklbafkalaaGreat

/- estraylaw25: works, the model. -/
namespace Go.Proofs.YtaikgklbafkalaaGreat
open Go.RowKit

theorem Sys.free_M {s : Sys} {i : Nat} (hi : i < s.M.P.n) : (s.free i).M = { s.M with P := s.M.P.put i 0 } := by
  show (s.M.freedR i).1 = _
  unfold Mk.freedR; rw [if_neg (by omega), Int.toNat_natCast]
end Go.Proofs.YtaikgklbafkalaaGreat

/- estraylaw25: works. -/
namespace Go.Proofs.YtaikgklbafkalaaGreat
open Go.RowKit
set_option linter.unusedVariables false
set_option linter.unusedSimpArgs false

theorem Trio.noref {w0 w : World} {a m b : Nat} {LA : ArL} {LM : MkL} {s : Sys} {S : Sw} (h : Trio w0 w a m b LA LM s S) {x : Nat} {c : Array Value} (hx : w.heap[x]? = some (.cells c 41)) : ¬ (x = b ∨ foot2 LA LM s x) := by
  obtain ⟨⟨h1, h2, _, _⟩, hs, _⟩ := h
  obtain ⟨_, _, hhp, ⟨cg, hcg, _⟩, hst, _⟩ := h1
  obtain ⟨⟨cy, hcy, _⟩, ⟨cz, hcz, _⟩, _, _⟩ := hhp
  obtain ⟨_, _, ek, ⟨ep, hep, _⟩, ⟨es, hes, _⟩, eb, _⟩ := h2
  rintro (h | h)
  · exact type_ne hx hs.own (by decide) h
  rcases h with h | h
  · rcases h with h | h | h | ⟨k, hk, h⟩
    · exact type_ne hx hcy (by decide) h
    · exact type_ne hx hcz (by decide) h
    · exact type_ne hx hcg (by decide) h
    · obtain ⟨c, hc, _⟩ := hst k hk; exact type_ne hx hc (by decide) h
  · rcases h with h | h | h | ⟨k, hk, h⟩
    · exact type_ne hx ek.own (by decide) h
    · exact type_ne hx hep (by decide) h
    · exact type_ne hx hes (by decide) h
    · obtain ⟨c, hc, _⟩ := eb k hk; exact type_ne hx hc (by decide) h
section
variable {w0 w : World} {a m b : Nat} {LA : ArL} {LM : MkL}
end

end Go.Proofs.YtaikgklbafkalaaGreat
