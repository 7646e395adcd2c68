/- Package sweep: sweepers. -/
import Derived.Test.YtaikgklbafkalaaGreatMgQ
import Derived.Test.YtaikgklbafkalaaGreatNgB
import Derived.Test.YtaikgklbafkalaaGreatMgX
import Derived.Test.YtaikgklbafkalaaGreatMgV
namespace Go.Proofs.YtaikgklbafkalaaGreat
open Go.RowKit

theorem cells3 {w : World} {b : Nat} {v0 v1 v2 : Value} {t : TypeId} (h : w.heap[b]? = some (.cells #[v0, v1, v2] t)) :
    w.cell? ⟨b, 0, none⟩ = some v0 ∧ w.cell? ⟨b, 1, none⟩ = some v1 ∧ w.cell? ⟨b, 2, none⟩ = some v2 ∧ b < w.heap.size :=
  ⟨cell_at h rfl, cell_at h rfl, cell_at h rfl, lt_block h⟩
structure Sw where
  size : Nat
  next : Nat
  n : Nat
structure SwAt (w : World) (b : Nat) (S : Sw) : Prop where
  own : w.heap[b]? = some (.cells #[.int .i64 S.size, .int .i64 S.next, .int .i64 S.n] 241)
  s1 : 1 ≤ S.size
  s2 : S.size ≤ 256
  nx : S.next ≤ S.size
  nn : S.n ≤ S.next
theorem SwAt.keeps {w w' : World} {b : Nat} {K : Sw} {S : Nat → Prop} (h : SwAt w b K) (hk : Keeps S w w') (hS : ¬ S b) : SwAt w' b K :=
  ⟨block_keep h.own hk hS, h.s1, h.s2, h.nx, h.nn⟩
end Go.Proofs.YtaikgklbafkalaaGreat

/- Package sweep: check. -/
namespace Go.Proofs.YtaikgklbafkalaaGreat
open Go.RowKit
set_option linter.unusedVariables false

end Go.Proofs.YtaikgklbafkalaaGreat

/- Package sweep: Step. -/
namespace Go.Proofs.YtaikgklbafkalaaGreat
open Go.RowKit
set_option linter.unusedVariables false

section
variable {w0 w w' : World} {a m b : Nat} {LA : ArL} {LM : MkL} {s : Sys} {S : Sw}

theorem Both.sw (h : Both w0 w a m LA LM s) (hs : SwAt w b S) (hk : Keeps (fun y => y = b) w w') (hb : w0.heap.size ≤ b) : Both w0 w' a m LA LM s := by
  obtain ⟨h1, h2, h3, h4⟩ := h
  have ho := hs.own
  obtain ⟨⟨cx, hcx, _⟩, hox, hhp, ⟨cg, hcg, _⟩, hst, _⟩ := id h1
  obtain ⟨⟨cy, hcy, _⟩, ⟨cz, hcz, _⟩, _, _⟩ := hhp
  obtain ⟨ex, ⟨er, her, _⟩, ek, ⟨ep, hep, _⟩, ⟨es, hes, _⟩, eb, _⟩ := id h2
  refine ⟨h1.keeps hk (type_ne hcx ho (by decide)) (type_ne hox ho (by decide)) (type_ne hcy ho (by decide)) (type_ne hcz ho (by decide)) (type_ne hcg ho (by decide)) (fun k hk => ?_), h2.keeps hk (type_ne ex ho (by decide)) (type_ne ek.own ho (by decide)) (type_ne hep ho (by decide)) (type_ne hes ho (by decide)) (type_ne her ho (by decide)) (fun k hk => ?_), h3.trans' hk (fun _ _ h => h) (fun y hy h => by omega), h4⟩
  · obtain ⟨c, hc, _⟩ := hst k hk; exact type_ne hc ho (by decide)
  · obtain ⟨c, hc, _⟩ := eb k hk; exact type_ne hc ho (by decide)
theorem SwAt.foot (h : Both w0 w a m LA LM s) (hs : SwAt w b S) : ¬ foot2 LA LM s b := by
  have ho := hs.own
  obtain ⟨h1, h2, _, _⟩ := h
  obtain ⟨_, _, hhp, ⟨cg, hcg, _⟩, hst, _⟩ := h1
  obtain ⟨⟨cy, hcy, _⟩, ⟨cz, hcz, _⟩, _, _⟩ := hhp
  obtain ⟨_, _, ek, ⟨ep, hep, _⟩, ⟨es, hes, _⟩, eb, _⟩ := h2
  rintro (h | h)
  · rcases h with h | h | h | ⟨k, hk, h⟩
    · exact type_ne hcy ho (by decide) h.symm
    · exact type_ne hcz ho (by decide) h.symm
    · exact type_ne hcg ho (by decide) h.symm
    · obtain ⟨c, hc, _⟩ := hst k hk; exact type_ne hc ho (by decide) h.symm
  · rcases h with h | h | h | ⟨k, hk, h⟩
    · exact type_ne ek.own ho (by decide) h.symm
    · exact type_ne hep ho (by decide) h.symm
    · exact type_ne hes ho (by decide) h.symm
    · obtain ⟨c, hc, _⟩ := eb k hk; exact type_ne hc ho (by decide) h.symm
end

def Sys.free (s : Sys) (i : Nat) : Sys := ⟨(s.A.freeR ⟨i, s.A.H.T.gn i⟩).1, (s.M.freedR i).1⟩
theorem Ar.freeR_n (A : Ar) (r : Rf) : (A.freeR r).1.H.T.n = A.H.T.n ∧ (A.freeR r).1.many = A.many := by
  refine ⟨?_, rfl⟩
  show (A.H.freeR r).1.T.n = _
  unfold Hp.freeR
  split
  · rfl
  · unfold Hp.free Tb.give
    dsimp only
    split <;> rfl
theorem Sys.Ok.free {s : Sys} (h : s.Ok) {i : Nat} (hi : i < s.M.P.n) (hc : s.M.P.c i = 0) : (s.free i).Ok := by
  have e : (s.M.freedR i).1 = { s.M with P := s.M.P.put i 0 } := by
    unfold Mk.freedR; rw [if_neg (by omega), Int.toNat_natCast]
  have hm := h.m.freedR i
  have hp : s.M.P.put i 0 = s.M.P := by
    unfold Pt.put
    have : updf s.M.P.c i 0 = s.M.P.c := by
      funext j
      by_cases ej : j = i
      · subst ej; rw [updf_same, hc]
      · rw [updf_ne _ _ ej]
    rw [this]
  unfold Sys.free
  rw [e] at hm ⊢
  rw [hp] at hm ⊢
  exact ⟨h.a.freeR _, hm, (Ar.freeR_n _ _).1.trans h.n, (Ar.freeR_n _ _).2.trans h.k, h.g⟩
structure SwRes where
  S : Sw
  s : Sys
  r : Rf
  is : Bool
def Sw.stepR (S : Sw) (s : Sys) : SwRes :=
  if s.M.P.c S.next ≠ 0 ∨ s.A.H.T.st S.next ≠ 1 then ⟨⟨S.size, S.next + 1, S.n⟩, s, .no, false⟩
  else ⟨⟨S.size, S.next + 1, S.n + 1⟩, s.free S.next, ⟨S.next, s.A.H.T.gn S.next⟩, true⟩
end Go.Proofs.YtaikgklbafkalaaGreat

/- Package sweep: Step, the walk. -/
namespace Go.Proofs.YtaikgklbafkalaaGreat
set_option linter.unusedSimpArgs false
open Go.RowKit
set_option linter.unusedVariables false

theorem Both.far {w0 w W W' : World} {a m : Nat} {LA : ArL} {LM : MkL} {s t : Sys} (h : Both w0 w a m LA LM s) (h2 : Both w0 W a m LA LM t) (h3 : t.A.many = s.A.many) (h4 : t.M.K.many = s.M.K.many) (hk : Keeps (fun y => w.heap.size ≤ y) W W') : Both w0 W' a m LA LM t :=
  ⟨h2.ar.keepsB (by rw [h3]; exact h.ar.btw) hk, h2.mm.keepsB (by rw [h4]; exact h.mm.btw) hk, h2.kp.trans' hk (fun _ _ h => h) (fun y hy hz => by have := h.kp.size; omega), h2.sep⟩
end Go.Proofs.YtaikgklbafkalaaGreat
