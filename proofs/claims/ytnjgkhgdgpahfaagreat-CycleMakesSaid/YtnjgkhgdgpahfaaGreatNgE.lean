/- estraylaw25: begun. -/
import Derived.Test.YtnjgkhgdgpahfaaGreatNgC
import Derived.Test.YtnjgkhgdgpahfaaGreatNgB
import Derived.Test.YtnjgkhgdgpahfaaGreatNgD
namespace Go.Proofs.YtnjgkhgdgpahfaaGreat
open Go.RowKit
set_option linter.unusedVariables false
set_option linter.unusedSimpArgs false

structure Trio (w0 w : World) (a m b : Nat) (LA : ArL) (LM : MkL) (s : Sys) (S : Sw) : Prop where
  both : Both w0 w a m LA LM s
  sw : SwAt w b S
  hb : w0.heap.size ≤ b
theorem Trio.same {w0 w w' : World} {a m b : Nat} {LA : ArL} {LM : MkL} {s : Sys} {S : Sw} (h : Trio w0 w a m b LA LM s S) (hk : Keeps (fun _ => False) w w') : Trio w0 w' a m b LA LM s S :=
  ⟨Duo.same h.both hk, h.sw.keeps hk (fun h => h), h.hb⟩
theorem Trio.far {w0 w w' : World} {a m b : Nat} {LA : ArL} {LM : MkL} {s : Sys} {S : Sw} (h : Trio w0 w a m b LA LM s S) (hk : Keeps (fun y => y = b) w w') {S' : Sw} (hs : SwAt w' b S') : Trio w0 w' a m b LA LM s S' :=
  ⟨Both.sw h.both h.sw hk h.hb, hs, h.hb⟩
theorem Trio.kp {w0 w : World} {a m b : Nat} {LA : ArL} {LM : MkL} {s : Sys} {S : Sw} (h : Trio w0 w a m b LA LM s S) : Keeps (fun _ => False) w0 w := Duo.kp h.both
theorem trio_begin {w0 w : World} {a m b : Nat} {LA : ArL} {LM : MkL} {s : Sys} {S : Sw} (h : Trio w0 w a m b LA LM s S) :
    Calls Tryz.prog 112 #[.pointer (some ⟨b, 0, none⟩)] w fun e w' => e = .returned (.int .i64 0) ∧ Trio w0 w' a m b LA LM s ⟨S.size, 0, 0⟩ ∧ Keeps (fun y => y = b) w w' := by
  refine (swbegin_ok b S w h.sw).mono ?_
  rintro e w' ⟨rfl, hk, hs⟩
  exact ⟨rfl, h.far hk hs, hk⟩
theorem trio_step {w0 w : World} {a m b : Nat} {LA : ArL} {LM : MkL} {s : Sys} {S : Sw} (h : Trio w0 w a m b LA LM s S) (hok : s.Ok) (hc : S.chk s.A s.M = 0) :
    Calls Tryz.prog 113 #[.pointer (some ⟨b, 0, none⟩), .pointer (some ⟨a, 0, none⟩), .pointer (some ⟨m, 0, none⟩)] w fun e w' => e = .returned (.tuple #[(S.stepR s).r.val, .bool (S.stepR s).is, .int .i64 0]) ∧ Trio w0 w' a m b LA LM (S.stepR s).s (S.stepR s).S ∧ Keeps (fun y => y = b ∨ foot2 LA LM s y) w w' := by
  refine (swstep_ok a m b s S w h.both h.sw h.hb hok hc).mono ?_
  rintro e w' ⟨rfl, hd, hs, hk⟩
  exact ⟨rfl, ⟨hd, hs, h.hb⟩, hk⟩
end Go.Proofs.YtnjgkhgdgpahfaaGreat

/- estraylaw25: works, the model. -/
namespace Go.Proofs.YtnjgkhgdgpahfaaGreat
open Go.RowKit

theorem Sys.free_M {s : Sys} {i : Nat} (hi : i < s.M.P.n) : (s.free i).M = { s.M with P := s.M.P.put i 0 } := by
  show (s.M.freedR i).1 = _
  unfold Mk.freedR; rw [if_neg (by omega), Int.toNat_natCast]
theorem Sw.step_all {S : Sw} {s : Sys} (h : s.Ok) (hn : S.next < s.M.P.n) : (S.stepR s).s.Ok ∧ (S.stepR s).s.M.K = s.M.K ∧ (S.stepR s).s.M.P.n = s.M.P.n ∧ (S.stepR s).S.size = S.size ∧ (S.stepR s).S.next = S.next + 1 := by
  unfold Sw.stepR
  split
  · exact ⟨h, rfl, rfl, rfl, rfl⟩
  · rename_i hc
    have h0 : s.M.P.c S.next = 0 := Decidable.not_not.1 (fun hx => hc (.inl hx))
    have hM := Sys.free_M (s := s) hn
    refine ⟨h.free hn h0, ?_, ?_, rfl, rfl⟩
    · show (s.free S.next).M.K = _; rw [hM]
    · show (s.free S.next).M.P.n = _; rw [hM]; rfl
end Go.Proofs.YtnjgkhgdgpahfaaGreat

/- estraylaw25: works. -/
namespace Go.Proofs.YtnjgkhgdgpahfaaGreat
open Go.RowKit
set_option linter.unusedVariables false
set_option linter.unusedSimpArgs false

theorem Trio.noref {w0 w : World} {a m b : Nat} {LA : ArL} {LM : MkL} {s : Sys} {S : Sw} (h : Trio w0 w a m b LA LM s S) {x : Nat} {c : Array Value} (hx : w.heap[x]? = some (.cells c 39)) : ¬ (x = b ∨ foot2 LA LM s x) := by
  obtain ⟨⟨h1, h2, _, _⟩, hs, _⟩ := h
  obtain ⟨_, _, hhp, ⟨cg, hcg, _⟩, hst, _⟩ := h1
  obtain ⟨⟨cy, hcy, _⟩, ⟨cz, hcz, _⟩, _, _⟩ := hhp
  obtain ⟨_, _, ek, ⟨ep, hep, _⟩, ⟨es, hes, _⟩, eb, _⟩ := h2
  rintro (h | h)
  · exact type_ne hx hs.own (by decide) h
  rcases h with h | h
  · rcases h with h | h | h | ⟨k, hk, h⟩
    · exact type_ne hx hcy (by decide) h
    · exact type_ne hx hcz (by decide) h
    · exact type_ne hx hcg (by decide) h
    · obtain ⟨c, hc, _⟩ := hst k hk; exact type_ne hx hc (by decide) h
  · rcases h with h | h | h | ⟨k, hk, h⟩
    · exact type_ne hx ek.own (by decide) h
    · exact type_ne hx hep (by decide) h
    · exact type_ne hx hes (by decide) h
    · obtain ⟨c, hc, _⟩ := eb k hk; exact type_ne hx hc (by decide) h
section
variable {w0 w : World} {a m b : Nat} {LA : ArL} {LM : MkL}
end

end Go.Proofs.YtnjgkhgdgpahfaaGreat
