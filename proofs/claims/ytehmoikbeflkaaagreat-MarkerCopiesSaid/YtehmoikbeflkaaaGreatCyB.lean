/- Package cycle: a collector in memory. -/
import Derived.Test.YtehmoikbeflkaaaGreatCyA
import Derived.Test.YtehmoikbeflkaaaGreatKqA
namespace Go.Proofs.YtehmoikbeflkaaaGreat
open Go.RowKit
set_option linter.unusedVariables false
set_option linter.unusedSimpArgs false
set_option linter.unusedSectionVars false

def cyArr (m b n many : Nat) (C : Cyc) : Array Value := #[.pointer (some ⟨m, 0, none⟩), .pointer (some ⟨b, 0, none⟩), .int .i64 n, .int .i64 many, .int .i64 C.at', .int .i64 C.begun, .bool C.asked]
structure Quad (w0 w : World) (a m b c : Nat) (LA : ArL) (LM : MkL) (k : Col) : Prop where
  tr : Trio w0 w a m b LA LM k.s k.C.S
  own : w.heap[c]? = some (.cells (cyArr m b k.s.M.P.n k.s.M.K.many k.C) 238)
  hc : w0.heap.size ≤ c
def foot3 (LA : ArL) (LM : MkL) (b c : Nat) (s : Sys) (y : Nat) : Prop := y = c ∨ y = b ∨ foot2 LA LM s y
theorem Both.not_foot {w0 w : World} {a m : Nat} {LA : ArL} {LM : MkL} {s : Sys} (h : Both w0 w a m LA LM s) {x : Nat} {cs : Array Value} {t : TypeId} (hx : w.heap[x]? = some (.cells cs t)) (h1 : 139 ≠ t) (h2 : 325 ≠ t) (h3 : 256 ≠ t) (h4 : 259 ≠ t)
    (h5 : 290 ≠ t) (h6 : 294 ≠ t) (h7 : 299 ≠ t) (h8 : 301 ≠ t) : ¬ foot2 LA LM s x := by
  obtain ⟨ha, hm, _, _⟩ := h
  obtain ⟨_, _, hhp, ⟨cg, hcg, _⟩, hst, _⟩ := ha
  obtain ⟨⟨cy, hcy, _⟩, ⟨cz, hcz, _⟩, _, _⟩ := hhp
  obtain ⟨_, _, ek, ⟨ep, hep, _⟩, ⟨es, hes, _⟩, eb, _⟩ := hm
  rintro (h | h)
  · rcases h with h | h | h | ⟨k, hk, h⟩
    · exact type_ne hcy hx h1 h.symm
    · exact type_ne hcz hx h2 h.symm
    · exact type_ne hcg hx h3 h.symm
    · obtain ⟨c, hc, _⟩ := hst k hk; exact type_ne hc hx h4 h.symm
  · rcases h with h | h | h | ⟨k, hk, h⟩
    · exact type_ne ek.own hx h5 h.symm
    · exact type_ne hep hx h6 h.symm
    · exact type_ne hes hx h7 h.symm
    · obtain ⟨c, hc, _⟩ := eb k hk; exact type_ne hc hx h8 h.symm
theorem Both.oth {w0 w w' : World} {a m : Nat} {LA : ArL} {LM : MkL} {s : Sys} (h : Both w0 w a m LA LM s) {x : Nat} {cs : Array Value} {t : TypeId} (hx : w.heap[x]? = some (.cells cs t)) (hk : Keeps (fun y => y = x) w w') (hb : w0.heap.size ≤ x)
    (h1 : 139 ≠ t) (h2 : 325 ≠ t) (h3 : 256 ≠ t) (h4 : 259 ≠ t)
    (h5 : 290 ≠ t) (h6 : 294 ≠ t) (h7 : 299 ≠ t) (h8 : 301 ≠ t) (h9 : 130 ≠ t) (h10 : 132 ≠ t) (h11 : 202 ≠ t) (h12 : 213 ≠ t) : Both w0 w' a m LA LM s := by
  obtain ⟨ha, hm, hkp, hsep⟩ := h
  obtain ⟨⟨cx, hcx, _⟩, hox, hhp, ⟨cg, hcg, _⟩, hst, _⟩ := id ha
  obtain ⟨⟨cy, hcy, _⟩, ⟨cz, hcz, _⟩, _, _⟩ := hhp
  obtain ⟨ex, ⟨er, her, _⟩, ek, ⟨ep, hep, _⟩, ⟨es, hes, _⟩, eb, _⟩ := id hm
  refine ⟨ha.keeps hk (type_ne hcx hx h9) (type_ne hox hx h10) (type_ne hcy hx h1) (type_ne hcz hx h2) (type_ne hcg hx h3) (fun k hk => ?_), hm.keeps hk (type_ne ex hx h11) (type_ne ek.own hx h5) (type_ne hep hx h6) (type_ne hes hx h7) (type_ne her hx h12) (fun k hk => ?_), hkp.trans' hk (fun _ _ h => h) (fun y hy h => by omega), hsep⟩
  · obtain ⟨c, hc, _⟩ := hst k hk; exact type_ne hc hx h4
  · obtain ⟨c, hc, _⟩ := eb k hk; exact type_ne hc hx h8
section
variable {w0 w w' : World} {a m b c : Nat} {LA : ArL} {LM : MkL} {k : Col}

theorem Quad.same (h : Quad w0 w a m b c LA LM k) (hk : Keeps (fun _ => False) w w') : Quad w0 w' a m b c LA LM k :=
  ⟨h.tr.same hk, block_keep h.own hk (fun h => h), h.hc⟩
theorem Quad.cfoot (h : Quad w0 w a m b c LA LM k) : ¬ (c = b ∨ foot2 LA LM k.s c) := by
  rintro (e | e)
  · exact type_ne h.own h.tr.sw.own (by decide) e
  · exact h.tr.both.not_foot h.own (by decide) (by decide) (by decide) (by decide) (by decide) (by decide) (by decide) (by decide) e
theorem Quad.trio {s' : Sys} {S' : Sw} (h : Quad w0 w a m b c LA LM k) (hk : Keeps (fun y => y = b ∨ foot2 LA LM k.s y) w w') (ht : Trio w0 w' a m b LA LM s' S') (hn : s'.M.P.n = k.s.M.P.n) (hm : s'.M.K.many = k.s.M.K.many) : Quad w0 w' a m b c LA LM ⟨s', { k.C with S := S' }⟩ :=
  ⟨ht, by have := block_keep h.own hk h.cfoot; dsimp only; rw [hn, hm]; exact this, h.hc⟩
theorem Quad.both {s' : Sys} (h : Quad w0 w a m b c LA LM k) (hk : Keeps (foot2 LA LM k.s) w w') (hb : Both w0 w' a m LA LM s') (hn : s'.M.P.n = k.s.M.P.n) (hm : s'.M.K.many = k.s.M.K.many) : Quad w0 w' a m b c LA LM ⟨s', k.C⟩ :=
  h.trio (hk.mono (fun _ _ h => .inr h)) ⟨hb, h.tr.sw.keeps hk (h.tr.sw.foot h.tr.both), h.tr.hb⟩ hn hm
theorem Quad.coll {C' : Cyc} (h : Quad w0 w a m b c LA LM k) (hk : Keeps (fun y => y = c) w w') (hS : C'.S = k.C.S) (ho : w'.heap[c]? = some (.cells (cyArr m b k.s.M.P.n k.s.M.K.many C') 238)) : Quad w0 w' a m b c LA LM ⟨k.s, C'⟩ := by
  refine ⟨⟨?_, ?_, h.tr.hb⟩, ho, h.hc⟩
  · exact h.tr.both.oth h.own hk h.hc (by decide) (by decide) (by decide) (by decide) (by decide) (by decide) (by decide) (by decide) (by decide) (by decide) (by decide) (by decide)
  · dsimp only; rw [hS]
    exact h.tr.sw.keeps hk (fun e => h.cfoot (.inl e.symm))
end
end Go.Proofs.YtehmoikbeflkaaaGreat

/- Package cycle: steps by phases. -/
namespace Go.Proofs.YtehmoikbeflkaaaGreat
open Go.RowKit
set_option linter.unusedVariables false
set_option linter.unusedSimpArgs false
set_option linter.unusedSectionVars false

variable {w0 w w' : World} {a m b c : Nat} {LA : ArL} {LM : MkL} {k : Col}

theorem Quad.footlt (h : Quad w0 w a m b c LA LM k) : ∀ y, foot3 LA LM b c k.s y → y < w.heap.size := by
  rintro y (rfl | rfl | hy)
  · exact lt_block h.own
  · exact lt_block h.tr.sw.own
  · exact Both.footlt h.tr.both y hy
theorem Quad.far {W W' : World} {d : Col} (h : Quad w0 w a m b c LA LM k) (hW : Quad w0 W a m b c LA LM d) (hl : k.Like d) (hk : Keeps (fun y => w.heap.size ≤ y) W W') : Quad w0 W' a m b c LA LM d :=
  ⟨h.tr.farN hW.tr hl.2.2 hl.1 hk, block_keep hW.own hk (by have := lt_block h.own; omega), hW.hc⟩
theorem kfin {S : Nat → Prop} {w wA : World} {N : Nat} (hk : Keeps S w wA) (hN : w.heap.size ≤ N) (u v : Value) : Keeps S w ((wA.setCell ⟨N, 0, none⟩ u).setCell ⟨N, 1, none⟩ v) :=
  (hk.setCell (p := ⟨N, 0, none⟩) (.inr hN) u).setCell (p := ⟨N, 1, none⟩) (.inr hN) v
theorem kfin0 (wA : World) (N : Nat) (u v : Value) : Keeps (fun y => N ≤ y) wA ((wA.setCell ⟨N, 0, none⟩ u).setCell ⟨N, 1, none⟩ v) :=
  ((Keeps.refl (fun y => N ≤ y) wA).setCell (p := ⟨N, 0, none⟩) (.inl (Nat.le_refl _)) u).setCell (p := ⟨N, 1, none⟩) (.inl (Nat.le_refl _)) v
/- the object in a slot, and whether it is a handle that is not marked -/
end Go.Proofs.YtehmoikbeflkaaaGreat

/- Package cycle: discover, sweep; Step. -/
namespace Go.Proofs.YtehmoikbeflkaaaGreat
open Go.RowKit
set_option linter.unusedVariables false
set_option linter.unusedSimpArgs false
set_option linter.unusedSectionVars false

variable {w0 w w' : World} {a m b c : Nat} {LA : ArL} {LM : MkL} {k : Col}

end Go.Proofs.YtehmoikbeflkaaaGreat
