/- estraylaw25.SweepAgain, SweepApart: plain laws: the sweep of slots without moves; systems that lie apart. -/
import Derived.Test.YtnjgkhgdgpahfaaGreatNgE
import Derived.Test.YtnjgkhgdgpahfaaGreatKqA
namespace Go.Proofs.YtnjgkhgdgpahfaaGreat
open Go.RowKit
set_option linter.unusedVariables false
set_option linter.unusedSimpArgs false

def Sys.swp (s : Sys) : Nat → Sys
  | 0 => s
  | i + 1 => ((Sw.mk 0 i 0).stepR (s.swp i)).s
def Sys.swn (s : Sys) : Nat → Nat
  | 0 => 0
  | i + 1 => s.swn i + if ((Sw.mk 0 i 0).stepR (s.swp i)).is = true then 1 else 0
theorem stepR_of (n k c : Nat) (s : Sys) : ((Sw.mk n k c).stepR s).s = ((Sw.mk 0 k 0).stepR s).s ∧ ((Sw.mk n k c).stepR s).S = ⟨n, k + 1, c + if ((Sw.mk 0 k 0).stepR s).is = true then 1 else 0⟩ ∧ ((Sw.mk n k c).stepR s).is = ((Sw.mk 0 k 0).stepR s).is := by
  unfold Sw.stepR
  dsimp only
  split
  · exact ⟨rfl, rfl, rfl⟩
  · exact ⟨rfl, rfl, rfl⟩
theorem swp_step (s : Sys) (n i : Nat) : ((Sw.mk n i (s.swn i)).stepR (s.swp i)).s = s.swp (i + 1) ∧ ((Sw.mk n i (s.swn i)).stepR (s.swp i)).S = ⟨n, i + 1, s.swn (i + 1)⟩ :=
  ⟨(stepR_of n i _ _).1, (stepR_of n i _ _).2.1⟩
theorem free_st {s : Sys} (h : s.Ok) {i : Nat} (hi : i < s.A.H.T.n) (hs : s.A.H.T.st i = 1) (hc : s.M.P.c i = 0) : (s.free i).M = s.M ∧ (s.free i).A.H.T.st i ≠ 1 ∧ ∀ j, j ≠ i → (s.free i).A.H.T.st j = s.A.H.T.st j := by
  refine ⟨?_, ?_, ?_⟩
  · have hp : s.M.P.put i 0 = s.M.P := by
      unfold Pt.put
      have : updf s.M.P.c i 0 = s.M.P.c := by
        funext j
        by_cases ej : j = i
        · subst ej; rw [updf_same, hc]
        · rw [updf_ne _ _ ej]
      rw [this]
    rw [Sys.free_M (s := s) (by rw [← h.n]; exact hi), hp]
  · have e : (s.free i).A.H.T = s.A.H.T.give i := by
      show (s.A.H.freeR ⟨i, s.A.H.T.gn i⟩).1.T = _
      unfold Hp.freeR
      rw [if_neg (by rw [Decidable.not_not]; exact ckV_tk hi hs)]
      show s.A.H.T.give (Int.toNat (i : Int)) = _
      rw [Int.toNat_natCast]
    rw [e]
    unfold Tb.give Tb.put
    split <;> simp [upd]
  · intro j hj
    have e : (s.free i).A.H.T = s.A.H.T.give i := by
      show (s.A.H.freeR ⟨i, s.A.H.T.gn i⟩).1.T = _
      unfold Hp.freeR
      rw [if_neg (by rw [Decidable.not_not]; exact ckV_tk hi hs)]
      show s.A.H.T.give (Int.toNat (i : Int)) = _
      rw [Int.toNat_natCast]
    rw [e]
    unfold Tb.give Tb.put
    split <;> simp [upd, hj]
structure Swept (s : Sys) (i : Nat) : Prop where
  ok : (s.swp i).Ok
  M : (s.swp i).M = s.M
  many : (s.swp i).A.many = s.A.many
  n : (s.swp i).A.H.T.n = s.A.H.T.n
  gone : ∀ j, j < i → s.M.P.c j ≠ 0 ∨ (s.swp i).A.H.T.st j ≠ 1
  cnt : s.swn i ≤ i
theorem swept {s : Sys} (h : s.Ok) : ∀ i, i ≤ s.M.P.n → Swept s i
  | 0, _ => ⟨h, rfl, rfl, rfl, fun j hj => by omega, Nat.le_refl _⟩
  | i + 1, hi => by
    have ih := swept h i (by omega)
    have hcnt : s.swn (i + 1) ≤ i + 1 := by
      have := ih.cnt
      show s.swn i + (if _ then 1 else 0) ≤ _
      split <;> omega
    by_cases hc : (s.swp i).M.P.c i ≠ 0 ∨ (s.swp i).A.H.T.st i ≠ 1
    · have e : s.swp (i + 1) = s.swp i := by
        show ((Sw.mk 0 i 0).stepR (s.swp i)).s = _
        unfold Sw.stepR; dsimp only; rw [if_pos hc]
      refine ⟨e ▸ ih.ok, e ▸ ih.M, e ▸ ih.many, e ▸ ih.n, fun j hj => ?_, hcnt⟩
      rw [e]
      rcases Nat.lt_succ_iff_lt_or_eq.1 hj with hj | rfl
      · exact ih.gone j hj
      · rw [← ih.M]; exact hc
    · have e : s.swp (i + 1) = (s.swp i).free i := by
        show ((Sw.mk 0 i 0).stepR (s.swp i)).s = _
        unfold Sw.stepR; dsimp only; rw [if_neg hc]
      have h0 : (s.swp i).M.P.c i = 0 := Decidable.not_not.1 (fun hx => hc (.inl hx))
      have h1 : (s.swp i).A.H.T.st i = 1 := Decidable.not_not.1 (fun hx => hc (.inr hx))
      have hin : i < (s.swp i).A.H.T.n := by rw [ih.n, h.n]; omega
      obtain ⟨f1, f2, f3⟩ := free_st ih.ok hin h1 h0
      have fn := Ar.freeR_n (s.swp i).A ⟨i, (s.swp i).A.H.T.gn i⟩
      refine ⟨e ▸ ih.ok.free (by rw [← ih.ok.n]; exact hin) h0, ?_, ?_, ?_, fun j hj => ?_, hcnt⟩
      · rw [e, f1, ih.M]
      · rw [e]; exact fn.2.trans ih.many
      · rw [e]; exact fn.1.trans ih.n
      · rw [e]
        rcases Nat.lt_succ_iff_lt_or_eq.1 hj with hj | rfl
        · rw [f3 j (by omega)]; exact ih.gone j hj
        · exact .inr f2
theorem Swept.chk {s : Sys} {n i : Nat} (h : Swept s i) (hok : s.Ok) (hn : s.M.P.n = n) (hp : s.M.K.ph = 5) (hi : i < n) (c : Nat) : (Sw.mk n i c).chk (s.swp i).A (s.swp i).M = 0 := by
  unfold Sw.chk
  have h1 := h.n; have h2 := hok.n
  rw [h.M]
  dsimp only
  rw [if_neg (by omega), if_neg (by omega)]
structure TrioIn (w0 w : World) (N Z a m b : Nat) (LA : ArL) (LM : MkL) (s : Sys) (S : Sw) : Prop where
  tr : Trio w0 w a m b LA LM s S
  la : LA.Btw a s.A.many N Z
  lm : LM.Btw m s.M.K.many N Z
  b1 : N ≤ b
  b2 : b < Z
theorem TrioIn.foot {w0 w : World} {N Z a m b : Nat} {LA : ArL} {LM : MkL} {s : Sys} {S : Sw} (h : TrioIn w0 w N Z a m b LA LM s S) (y : Nat) (hy : y = b ∨ foot2 LA LM s y) : N ≤ y ∧ y < Z := by
  have h1 := h.b1; have h2 := h.b2
  obtain ⟨_, p2, p3, p4, p5, p6⟩ := h.la
  obtain ⟨_, q2, q3, q4, q5, q6⟩ := h.lm
  rcases hy with rfl | (hy | hy)
  · exact ⟨h1, h2⟩
  · rcases hy with rfl | rfl | rfl | ⟨k, hk, rfl⟩
    · exact p3
    · exact p4
    · exact p5
    · exact p6 k hk
  · rcases hy with rfl | rfl | rfl | ⟨k, hk, rfl⟩
    · exact q2
    · exact q3
    · exact q4
    · exact q6 k hk
theorem TrioIn.other {w0 w w' : World} {N Z a m b : Nat} {LA : ArL} {LM : MkL} {s : Sys} {S : Sw} {F : Nat → Prop} (h : TrioIn w0 w N Z a m b LA LM s S) (hk : Keeps F w w') (hF : ∀ y, F y → y < N ∨ Z ≤ y) (hF0 : ∀ y, F y → w0.heap.size ≤ y) : TrioIn w0 w' N Z a m b LA LM s S := by
  have nf : ∀ y, N ≤ y ∧ y < Z → ¬ F y := fun y hy hf => by have := hF y hf; omega
  obtain ⟨⟨⟨ha, hm, hkp, hsep⟩, hs, hb⟩, la, lm, b1, b2⟩ := h
  refine ⟨⟨⟨ha.keeps hk (nf _ la.a) (nf _ la.o) (nf _ la.b) (nf _ la.t) (nf _ la.g) (fun k hk => nf _ (la.ss k hk)), hm.keeps hk (nf _ lm.m) (nf _ lm.c) (nf _ lm.p) (nf _ lm.s) (nf _ lm.rb) (fun k hk => nf _ (lm.bb k hk)), ?_, hsep⟩, hs.keeps hk (nf _ ⟨b1, b2⟩), hb⟩, la, lm, b1, b2⟩
  exact hkp.trans' hk (fun _ _ h => h) (fun y hy hf => by have := hF0 y hf; omega)
theorem TrioIn.step {w0 w : World} {N Z a m b : Nat} {LA : ArL} {LM : MkL} {s : Sys} {n i : Nat} (h : TrioIn w0 w N Z a m b LA LM (s.swp i) ⟨n, i, s.swn i⟩) (hok : s.Ok) (hn : s.M.P.n = n) (hp : s.M.K.ph = 5) (hi : i < n) :
    Calls Tryz.prog 113 #[.pointer (some ⟨b, 0, none⟩), .pointer (some ⟨a, 0, none⟩), .pointer (some ⟨m, 0, none⟩)] w fun e w' => ∃ (r : Rf) (is : Bool), e = .returned (.tuple #[r.val, .bool is, .int .i64 0]) ∧ TrioIn w0 w' N Z a m b LA LM (s.swp (i + 1)) ⟨n, i + 1, s.swn (i + 1)⟩ ∧ Keeps (fun y => N ≤ y ∧ y < Z) w w' := by
  have hs := swept hok i (by omega)
  have hs2 := swept hok (i + 1) (by omega)
  refine (trio_step h.tr hs.ok (hs.chk hok hn hp hi _)).mono ?_
  rintro e w' ⟨rfl, ht, hk⟩
  obtain ⟨e1, e2⟩ := swp_step s n i
  rw [e1, e2] at ht
  refine ⟨_, _, rfl, ⟨ht, ?_, ?_, h.b1, h.b2⟩, hk.mono (fun y _ hy => h.foot y hy)⟩
  · rw [hs2.many, ← hs.many]; exact h.la
  · rw [hs2.M, ← hs.M]; exact h.lm
theorem TrioIn.same {w0 w w' : World} {N Z a m b : Nat} {LA : ArL} {LM : MkL} {s : Sys} {S : Sw} (h : TrioIn w0 w N Z a m b LA LM s S) (hk : Keeps (fun _ => False) w w') : TrioIn w0 w' N Z a m b LA LM s S :=
  h.other hk (fun _ h => h.elim) (fun _ h => h.elim)
end Go.Proofs.YtnjgkhgdgpahfaaGreat

/- What mutators do to a system, in general: calls of the arena, of which the marker is told. -/
namespace Go.Proofs.YtnjgkhgdgpahfaaGreat
open Go.RowKit
set_option linter.unusedVariables false

inductive Mo where
  | make (k : Nat) (n : Int) (h : Bool)
  | load (k : Nat) (i f : Int)
  | store (k : Nat) (i f j : Int)
  | drop (k : Nat) (i : Int)
  | put (k : Nat) (i g : Int)
  | get (k : Nat) (g : Int)
def Mo.who : Mo → Nat
  | .make k _ _ => k
  | .load k _ _ => k
  | .store k _ _ _ => k
  | .drop k _ => k
  | .put k _ _ => k
  | .get k _ => k
def Mo.doR (x : Mo) (s : Sys) : Sys :=
  match x with
  | .make k n h => ⟨(s.A.makeR k n h).A, if (s.A.makeR k n h).e = 0 then (s.M.madeR (s.A.makeR k n h).now).1 else s.M⟩
  | .load k i f => ⟨(s.A.loadR k i f).A, s.M⟩
  | .store k i f j => Sys.told (s.A.storeR k i f j) s k
  | .drop k i => ⟨(s.A.dropR k i).A, s.M⟩
  | .put k i g => Sys.told (s.A.putR k i g) s k
  | .get k g => ⟨(s.A.getR k g).A, s.M⟩
theorem Mo.next (x : Mo) {s : Sys} (h : s.Ok) : Sys.Next s (x.doR s) := by
  cases x with
  | make k n hd =>
    unfold Mo.doR
    dsimp only
    split
    · obtain ⟨g1, b1⟩ := gs_made h.g (s.A.makeR k n hd).now
      obtain ⟨k1, k2⟩ := s.M.madeR_K (s.A.makeR k n hd).now
      have hn := s.A.makeR_n k n hd
      exact ⟨⟨h.a.makeR _ _ _, h.m.madeR _, (hn.1.trans h.n).trans k2.symm, (hn.2.trans h.k).trans (congrArg Ck.many k1).symm, g1⟩, k1, k2, b1⟩
    · exact h.arena (h.a.makeR _ _ _) (s.A.makeR_n _ _ _)
  | load k i f => exact h.arena (h.a.loadR _ _ _) (s.A.loadR_n _ _ _)
  | store k i f j => exact h.told (h.a.storeR _ _ _ _) (s.A.storeR_n _ _ _ _) _
  | drop k i => exact h.arena (h.a.dropR _ _) (s.A.dropR_n _ _)
  | put k i g => exact h.told (h.a.putR _ _ _) (s.A.putR_n _ _ _) _
  | get k g => exact h.arena (h.a.getR _ _) (s.A.getR_n _ _)
theorem Mo.did (x : Mo) {s : Sys} (hok : s.Ok) (h : Safe s) (hk : x.who < s.A.many) : ∃ N, Did s (x.doR s) N := by
  cases x with
  | make k n hd => obtain ⟨N, h1, _⟩ := did_makeR hok h (k := k) hk n hd; exact ⟨N, h1⟩
  | load k i f => exact ⟨_, did_loadR hok h _ _ _⟩
  | store k i f j => exact ⟨_, (did_storeR hok h (k := k) hk _ _ _).1⟩
  | drop k i => exact ⟨_, did_drop h _ _⟩
  | put k i g => exact ⟨_, (did_putR hok h (k := k) hk _ _).1⟩
  | get k g => exact ⟨_, did_getR h _ _⟩
theorem Mo.safe (x : Mo) {s : Sys} (hok : s.Ok) (h : Safe s) (hk : x.who < s.A.many) : Safe (x.doR s) := by
  obtain ⟨N, hd⟩ := x.did hok h hk
  exact hd.safe h
theorem Mo.many (x : Mo) {s : Sys} (h : s.Ok) : (x.doR s).A.many = s.A.many := by
  have := x.next h
  rw [this.ok.k, this.K, h.k]
end Go.Proofs.YtnjgkhgdgpahfaaGreat

/- Package cycle: collectors as plain functions; a cycle ends. -/
namespace Go.Proofs.YtnjgkhgdgpahfaaGreat
open Go.RowKit
set_option linter.unusedVariables false
set_option linter.unusedSimpArgs false

structure Cyc where
  S : Sw
  at' : Nat
  begun : Nat
  asked : Bool
structure Col where
  s : Sys
  C : Cyc
structure CyRes where
  c : Col
  r : Rf
  is : Bool
def Col.begin (c : Col) : Col := ⟨c.s.begun, { c.C with asked := false, begun := c.C.begun + 1 }⟩
def Sys.lostAt (s : Sys) (i : Nat) : Rf × Bool :=
  if s.M.P.c i ≠ 0 ∨ s.A.H.T.st i ≠ 1 then (.no, false) else (⟨i, s.A.H.T.gn i⟩, (s.A.H.ob i).h)
def Col.discover (c : Col) : Col :=
  if c.C.at' + 1 = c.s.M.P.n then ⟨⟨c.s.A, c.s.M.goR.1⟩, { c.C with at' := c.C.at' + 1, S := ⟨c.C.S.size, 0, 0⟩ }⟩
  else ⟨c.s, { c.C with at' := c.C.at' + 1 }⟩
def Col.sweep (c : Col) : Col :=
  if (c.C.S.stepR c.s).S.next = (c.C.S.stepR c.s).S.size then ⟨⟨(c.C.S.stepR c.s).s.A, (c.C.S.stepR c.s).s.M.goR.1⟩, { c.C with S := (c.C.S.stepR c.s).S }⟩
  else ⟨(c.C.S.stepR c.s).s, { c.C with S := (c.C.S.stepR c.s).S }⟩
def Col.mark (c : Col) : Col := ⟨c.s.step, if c.s.step.M.K.ph = 4 then { c.C with at' := 0 } else c.C⟩
def Col.stepR (c : Col) (room : Bool) : CyRes :=
  if c.s.M.K.ph = 0 then ⟨if c.C.asked = true then c.begin else c, .no, false⟩
  else if c.s.M.K.ph = 4 then
    if (c.s.lostAt c.C.at').2 = true then (if room = true then ⟨c.discover, (c.s.lostAt c.C.at').1, true⟩ else ⟨c, .no, false⟩) else ⟨c.discover, .no, false⟩
  else if c.s.M.K.ph = 5 then ⟨c.sweep, .no, false⟩
  else ⟨c.mark, .no, false⟩
def Col.askR (c : Col) : Col × Bool := if c.s.M.K.ph = 0 then (c.begin, true) else (⟨c.s, { c.C with asked := true }⟩, false)
structure Col.Ok (c : Col) : Prop where
  s : c.s.Ok
  safe : Safe c.s
  sz : c.C.S.size = c.s.M.P.n
  a4 : c.s.M.K.ph = 4 → c.C.at' < c.s.M.P.n
  a5 : c.s.M.K.ph = 5 → c.C.S.next < c.s.M.P.n
  sn : ∀ i, c.s.M.K.seen i = true → i < c.s.M.K.many
  bg : c.C.begun = c.s.M.K.cy + if c.s.M.K.ph = 0 then 0 else 1
def Col.Like (c d : Col) : Prop := d.s.M.K.many = c.s.M.K.many ∧ d.s.M.P.n = c.s.M.P.n ∧ d.s.A.many = c.s.A.many
theorem stepR_K {M : Mk} (hok : M.Ok) (hg : Gs M.P M.S) (A : Ar) (hp : M.K.ph = 1 ∨ M.K.ph = 2 ∨ M.K.ph = 3) : (M.stepR A).K = M.K ∨ (M.stepR A).K = M.K.go := by
  unfold Mk.stepR
  split
  · split
    · exact .inr rfl
    · exact .inl rfl
  split
  · split
    · exact .inr rfl
    · exact .inl rfl
  split
  · obtain ⟨_, _, g3⟩ := gs_trace (H := A.H) hok hg
    rcases g3 with ⟨h, _⟩ | ⟨h, _⟩
    · exact .inr h
    · exact .inl h
  · exact .inl rfl
theorem goR_4 {M : Mk} (h : M.K.ph = 4) : M.goR.1 = { M with K := M.K.go } := by
  unfold Mk.goR; rw [if_neg (by omega), if_pos h]
theorem goR_5 {M : Mk} (h : M.K.ph = 5) : M.goR.1 = M.endedR := by
  unfold Mk.goR; rw [if_neg (by omega), if_neg (by omega)]
theorem Sys.Ok.go4 {s : Sys} (h : s.Ok) (hp : s.M.K.ph = 4) : (Sys.mk s.A s.M.goR.1).Ok := by
  rw [goR_4 hp]
  exact ⟨h.a, h.m.go, h.n, h.k, h.g⟩
theorem Sys.Ok.go5 {s : Sys} (h : s.Ok) (hp : s.M.K.ph = 5) : (Sys.mk s.A s.M.goR.1).Ok := by
  have hm := h.m.goR
  rw [goR_5 hp] at hm ⊢
  exact ⟨h.a, hm, h.n, h.k, ⟨fun j hj => by exact absurd hj (Nat.not_lt_zero _), fun j k hj => by exact absurd hj (Nat.not_lt_zero _)⟩⟩
theorem Sys.Ok.begun {s : Sys} (h : s.Ok) : s.begun.Ok := by
  unfold Sys.begun Mk.beginR
  split
  · exact ⟨h.a, h.m.withK rfl (by show 1 ≤ 5; decide), h.n, h.k, h.g⟩
  · exact h
theorem safe_freeS {s : Sys} (hok : s.Ok) (h : Safe s) (hp : 4 ≤ s.M.K.ph) {i : Nat} (hin : i < s.A.H.T.n) (w1 : s.A.H.T.st i = 1) (w2 : s.M.P.c i = 0) : Safe (s.free i) ∧ ∀ r, Rch (s.free i).A r → Rch s.A r := by
  have hck : ckV s.A.H.T (i : Int) (s.A.H.T.gn i) = 0 := ckV_tk hin w1
  have hfr : (s.free i).A.H = s.A.H.free i := by
    show (s.A.H.freeR ⟨i, s.A.H.T.gn i⟩).1 = _
    unfold Hp.freeR
    rw [if_neg (by show ¬ ckV s.A.H.T (i : Int) (s.A.H.T.gn i) ≠ 0; rw [hck]; exact fun h => h rfl)]
    show s.A.H.free (i : Int).toNat = _
    rw [Int.toNat_natCast]
  have hst : ∀ j, (s.free i).A.H.T.st j = if j = i then (if s.A.H.T.gn i < 4294967295 then 0 else 2) else s.A.H.T.st j := fun j => by
    rw [hfr]; show (s.A.H.T.give i).st j = _
    unfold Tb.give
    split <;> rfl
  have hgn : ∀ j, (s.free i).A.H.T.gn j = if j = i then (if s.A.H.T.gn i < 4294967295 then s.A.H.T.gn i + 1 else s.A.H.T.gn i) else s.A.H.T.gn j := fun j => by
    rw [hfr]; show (s.A.H.T.give i).gn j = _
    unfold Tb.give
    split <;> rfl
  have hMe := (free_st hok hin w1 w2).1
  have hsf := safe_free (A' := (s.free i).A) h hp w2 (Ar.freeR_n _ _).2 rfl rfl (fun j hj => by rw [hfr]; exact updf_ne _ _ hj) (by rw [hfr]; exact Tb.give_n _ _) (fun j hj => by rw [hst, if_neg hj]) (fun j hj => by rw [hgn, if_neg hj]) (by rw [hst, if_pos rfl]; split <;> decide)
  have e2 : s.free i = ⟨(s.free i).A, s.M⟩ := by
    conv => lhs; rw [show s.free i = ⟨(s.free i).A, (s.free i).M⟩ from rfl, hMe]
  exact ⟨by rw [e2]; exact hsf.1, hsf.2⟩
theorem Sw.step_safe {S : Sw} {s : Sys} (hok : s.Ok) (h : Safe s) (hp : 4 ≤ s.M.K.ph) (hn : S.next < s.M.P.n) : Safe (S.stepR s).s ∧ (S.stepR s).s.M = s.M ∧ (S.stepR s).s.A.many = s.A.many := by
  unfold Sw.stepR
  split
  · exact ⟨h, rfl, rfl⟩
  · rename_i hc
    have h0 : s.M.P.c S.next = 0 := Decidable.not_not.1 (fun hx => hc (.inl hx))
    have h1 : s.A.H.T.st S.next = 1 := Decidable.not_not.1 (fun hx => hc (.inr hx))
    have hin : S.next < s.A.H.T.n := by rw [hok.n]; exact hn
    exact ⟨(safe_freeS hok h hp hin h1 h0).1, (free_st hok hin h1 h0).1, (Ar.freeR_n _ _).2⟩
theorem Col.begin_ok {c : Col} (h : c.Ok) (hp : c.s.M.K.ph = 0) : c.begin.Ok ∧ c.Like c.begin ∧ c.begin.s.M.K.ph = 1 := by
  have e : c.s.M.beginR.1 = { c.s.M with K := c.s.M.K.to 1 } := by unfold Mk.beginR; rw [if_pos hp]
  have hK : c.begin.s.M.K = c.s.M.K.to 1 := by show c.s.M.beginR.1.K = _; rw [e]
  have hph : c.begin.s.M.K.ph = 1 := by rw [hK]; rfl
  have hP : c.begin.s.M.P = c.s.M.P := by show c.s.M.beginR.1.P = _; rw [e]
  refine ⟨⟨h.s.begun, safe_begin h.safe, ?_, fun h4 => by omega, fun h5 => by omega, fun i hi => ?_, ?_⟩, ⟨by rw [hK]; rfl, by rw [hP], rfl⟩, hph⟩
  · rw [hP]; exact h.sz
  · rw [hK] at hi; cases hi
  · rw [if_neg (by omega), hK]
    have := h.bg
    rw [if_pos hp] at this
    show c.C.begun + 1 = c.s.M.K.cy + 1
    omega
theorem Col.mark_ok {c : Col} (h : c.Ok) (hp : c.s.M.K.ph = 1 ∨ c.s.M.K.ph = 2 ∨ c.s.M.K.ph = 3) : c.mark.Ok ∧ c.Like c.mark ∧ (c.mark.s.M.K.ph = c.s.M.K.ph ∨ c.mark.s.M.K.ph = c.s.M.K.ph + 1) ∧ c.mark.C.S = c.C.S ∧ c.mark.C.begun = c.C.begun ∧ c.mark.C.asked = c.C.asked ∧ c.mark.s.M.K.cy = c.s.M.K.cy ∧ (c.mark.s.M.K.ph = 4 → c.mark.C.at' = 0) := by
  obtain ⟨o1, o2, o3⟩ := Sys.step_next h.s
  have hK := stepR_K h.s.m h.s.g c.s.A hp
  have hcy : c.s.step.M.K.cy = c.s.M.K.cy := Mk.stepR_cy c.s.M c.s.A (by omega)
  have hph : c.s.step.M.K.ph = c.s.M.K.ph ∨ c.s.step.M.K.ph = c.s.M.K.ph + 1 := by
    show (c.s.M.stepR c.s.A).K.ph = c.s.M.K.ph ∨ (c.s.M.stepR c.s.A).K.ph = c.s.M.K.ph + 1
    rcases hK with e | e <;> rw [e]
    · exact .inl rfl
    · right; show (c.s.M.K.ph + 1) % 6 = _; omega
  have hC : c.mark.C.S = c.C.S ∧ c.mark.C.begun = c.C.begun ∧ c.mark.C.asked = c.C.asked ∧ (c.s.step.M.K.ph = 4 → c.mark.C.at' = 0) := by
    unfold Col.mark; dsimp only; split
    · exact ⟨rfl, rfl, rfl, fun _ => rfl⟩
    · rename_i hn; exact ⟨rfl, rfl, rfl, fun h => absurd h hn⟩
  have o2' : c.s.step.M.K.many = c.s.M.K.many := o2
  have o3' : c.s.step.M.P.n = c.s.M.P.n := o3
  refine ⟨⟨o1, safe_step h.s h.safe, ?_, fun h4 => ?_, fun h5 => ?_, fun i hi => ?_, ?_⟩, ⟨o2, o3, rfl⟩, hph, hC.1, hC.2.1, hC.2.2.1, hcy, hC.2.2.2⟩
  · rw [hC.1, h.sz]; exact o3.symm
  · rw [hC.2.2.2 h4]
    exact o1.m.n1
  · have h5' : c.s.step.M.K.ph = 5 := h5
    omega
  · have hi' : (c.s.M.stepR c.s.A).K.seen i = true := hi
    show i < c.s.step.M.K.many
    rw [o2']
    rcases hK with e | e
    · rw [e] at hi'; exact h.sn i hi'
    · rw [e] at hi'; cases hi'
  · rw [hC.2.1, h.bg]
    have e1 : c.mark.s.M.K.cy = c.s.M.K.cy := hcy
    have e2 : c.mark.s.M.K.ph = c.s.M.K.ph ∨ c.mark.s.M.K.ph = c.s.M.K.ph + 1 := hph
    rw [e1, if_neg (by omega), if_neg (by omega)]
theorem Col.discover_ok {c : Col} (h : c.Ok) (hp : c.s.M.K.ph = 4) : c.discover.Ok ∧ c.Like c.discover ∧ c.discover.C.begun = c.C.begun ∧ c.discover.C.asked = c.C.asked ∧ c.discover.s.A = c.s.A ∧ c.discover.s.M.P = c.s.M.P ∧ c.discover.s.M.K.cy = c.s.M.K.cy
    ∧ ((c.C.at' + 1 = c.s.M.P.n ∧ c.discover.s.M.K.ph = 5 ∧ c.discover.C.S = ⟨c.C.S.size, 0, 0⟩) ∨ (c.C.at' + 1 < c.s.M.P.n ∧ c.discover.s.M.K.ph = 4 ∧ c.discover.C.at' = c.C.at' + 1)) := by
  have h4 := h.a4 hp
  unfold Col.discover
  by_cases e : c.C.at' + 1 = c.s.M.P.n
  · rw [if_pos e]
    have hg := goR_4 hp
    have hok := h.s.go4 hp
    have hsf := safe_go h.s h.safe
    have hph : c.s.M.goR.1.K.ph = 5 := by rw [hg]; show (c.s.M.K.ph + 1) % 6 = 5; omega
    have hcy : c.s.M.goR.1.K.cy = c.s.M.K.cy := by rw [hg]; show (if c.s.M.K.ph = 5 then _ else _) = _; rw [if_neg (by omega)]
    have hmy : c.s.M.goR.1.K.many = c.s.M.K.many := by rw [hg]; rfl
    have hP : c.s.M.goR.1.P = c.s.M.P := by rw [hg]
    have hse : ∀ i, c.s.M.goR.1.K.seen i = false := fun i => by rw [hg]; rfl
    have n1 := h.s.m.n1
    refine ⟨⟨hok, hsf, ?_, fun hx => ?_, fun _ => ?_, fun i hi => ?_, ?_⟩, ⟨hmy, by dsimp only; rw [hP], rfl⟩, rfl, rfl, rfl, hP, hcy, .inl ⟨e, hph, rfl⟩⟩
    · dsimp only; rw [hP]; exact h.sz
    · dsimp only at hx; omega
    · dsimp only; rw [hP]; omega
    · dsimp only at hi; rw [hse] at hi; cases hi
    · dsimp only
      have := h.bg
      rw [if_neg (by omega)] at this ⊢
      rw [hcy]; exact this
  · rw [if_neg e]
    refine ⟨⟨h.s, h.safe, h.sz, fun _ => by dsimp only; omega, h.a5, h.sn, h.bg⟩, ⟨rfl, rfl, rfl⟩, rfl, rfl, rfl, rfl, rfl, .inr ⟨by omega, hp, rfl⟩⟩
theorem Col.sweep_ok {c : Col} (h : c.Ok) (hp : c.s.M.K.ph = 5) : c.sweep.Ok ∧ c.Like c.sweep ∧ c.sweep.C.begun = c.C.begun ∧ c.sweep.C.asked = c.C.asked ∧ c.sweep.s.A = (c.C.S.stepR c.s).s.A
    ∧ ((c.C.S.next + 1 = c.s.M.P.n ∧ c.sweep.s.M.K.ph = 0 ∧ c.sweep.s.M.K.cy = c.s.M.K.cy + 1) ∨ (c.C.S.next + 1 < c.s.M.P.n ∧ c.sweep.s.M.K.ph = 5 ∧ c.sweep.C.S.next = c.C.S.next + 1 ∧ c.sweep.s.M.K.cy = c.s.M.K.cy ∧ c.sweep.s.M.P = c.s.M.P)) := by
  have h5 := h.a5 hp
  obtain ⟨s1, s2, s3, s4, s5⟩ := Sw.step_all h.s h5
  obtain ⟨t1, t2, t3⟩ := Sw.step_safe h.s h.safe (by omega) h5
  unfold Col.sweep
  obtain ⟨R, hR⟩ : ∃ R, c.C.S.stepR c.s = R := ⟨_, rfl⟩
  rw [hR] at s1 s2 s3 s4 s5 t1 t2 t3 ⊢
  have hpR : R.s.M.K.ph = 5 := by rw [s2]; exact hp
  by_cases e : R.S.next = R.S.size
  · rw [if_pos e]
    have hg := goR_5 hpR
    have hok := s1.go5 hpR
    have hsf := safe_go s1 t1
    have hK : R.s.M.goR.1.K = R.s.M.K.go := by rw [hg]; rfl
    have hph : R.s.M.goR.1.K.ph = 0 := by rw [hK]; show (R.s.M.K.ph + 1) % 6 = 0; omega
    have hcy : R.s.M.goR.1.K.cy = c.s.M.K.cy + 1 := by rw [hK]; show (if R.s.M.K.ph = 5 then R.s.M.K.cy + 1 else _) = _; rw [if_pos hpR, s2]
    have hn : R.s.M.goR.1.P.n = c.s.M.P.n := by rw [hg]; exact s3
    have hse : ∀ i, R.s.M.goR.1.K.seen i = false := fun i => by rw [hK]; rfl
    have hmy : R.s.M.goR.1.K.many = c.s.M.K.many := by rw [hK]; show R.s.M.K.many = _; rw [s2]
    refine ⟨⟨hok, hsf, ?_, fun hx => ?_, fun hx => ?_, fun i hi => ?_, ?_⟩, ⟨hmy, hn, t3⟩, rfl, rfl, rfl, .inl ⟨?_, hph, hcy⟩⟩
    · dsimp only; rw [hn, s4]; exact h.sz
    · dsimp only at hx; omega
    · dsimp only at hx; omega
    · dsimp only at hi; rw [hse] at hi; cases hi
    · dsimp only
      have := h.bg
      rw [if_neg (by omega)] at this
      rw [if_pos hph, hcy, this]
    · have := h.sz; omega
  · rw [if_neg e]
    have hlt : c.C.S.next + 1 < c.s.M.P.n := by have := h.sz; omega
    refine ⟨⟨s1, t1, ?_, fun hx => ?_, fun _ => ?_, fun i hi => ?_, ?_⟩, ⟨by dsimp only; rw [s2], s3, t3⟩, rfl, rfl, rfl, .inr ⟨hlt, hpR, s5, by dsimp only; rw [s2], by dsimp only; rw [t2]⟩⟩
    · dsimp only; rw [s3, s4]; exact h.sz
    · dsimp only at hx; omega
    · dsimp only; omega
    · dsimp only at hi ⊢; rw [s2] at hi ⊢; exact h.sn i hi
    · dsimp only; rw [s2]; exact h.bg
theorem Col.Like.refl (c : Col) : c.Like c := ⟨rfl, rfl, rfl⟩
theorem Col.Like.trans {c d e : Col} (h : c.Like d) (k : d.Like e) : c.Like e := ⟨k.1.trans h.1, k.2.1.trans h.2.1, k.2.2.trans h.2.2⟩
theorem Col.step_ok {c : Col} (h : c.Ok) (room : Bool) : (c.stepR room).c.Ok ∧ c.Like (c.stepR room).c := by
  have hp := h.s.m.ph
  unfold Col.stepR
  split
  · rename_i h0
    dsimp only
    split
    · exact ⟨(Col.begin_ok h h0).1, (Col.begin_ok h h0).2.1⟩
    · exact ⟨h, Col.Like.refl c⟩
  split
  · rename_i h4
    have := Col.discover_ok h h4
    split
    · split
      · exact ⟨this.1, this.2.1⟩
      · exact ⟨h, Col.Like.refl c⟩
    · exact ⟨this.1, this.2.1⟩
  split
  · rename_i h5
    have := Col.sweep_ok h h5
    exact ⟨this.1, this.2.1⟩
  · have := Col.mark_ok h (by omega)
    exact ⟨this.1, this.2.1⟩
theorem Col.ask_ok {c : Col} (h : c.Ok) : c.askR.1.Ok ∧ c.Like c.askR.1 := by
  unfold Col.askR
  split
  · rename_i h0; exact ⟨(Col.begin_ok h h0).1, (Col.begin_ok h h0).2.1⟩
  · exact ⟨⟨h.s, h.safe, h.sz, h.a4, h.a5, h.sn, h.bg⟩, ⟨rfl, rfl, rfl⟩⟩
theorem Col.mo_ok {c : Col} (h : c.Ok) (x : Mo) (hk : x.who < c.s.A.many) : (Col.mk (x.doR c.s) c.C).Ok ∧ c.Like ⟨x.doR c.s, c.C⟩ := by
  have hn := x.next h.s
  refine ⟨⟨hn.ok, x.safe h.s h.safe hk, ?_, ?_, ?_, ?_, ?_⟩, ⟨?_, hn.n, x.many h.s⟩⟩
  · dsimp only; rw [hn.n]; exact h.sz
  · dsimp only; rw [hn.n, hn.K]; exact h.a4
  · dsimp only; rw [hn.n, hn.K]; exact h.a5
  · dsimp only; rw [hn.K]; exact h.sn
  · dsimp only; rw [hn.K]; exact h.bg
  · dsimp only; rw [hn.K]
theorem ackR_sn {M : Mk} (A : Ar) (i : Int) (h : ∀ j, M.K.seen j = true → j < M.K.many) : ∀ j, (M.ackR A i).M.K.seen j = true → j < (M.ackR A i).M.K.many := by
  unfold Mk.ackR
  split
  · exact h
  rename_i hi
  split
  · exact h
  have key : ∀ j, (M.K.ack i.toNat).seen j = true → j < (M.K.ack i.toNat).many := by
    intro j hj
    show j < M.K.many
    by_cases e : j = i.toNat
    · omega
    · exact h j (by rwa [show (M.K.ack i.toNat).seen j = M.K.seen j from updf_ne _ _ e] at hj)
  split
  · exact key
  · exact key
theorem Col.ack_ok {c : Col} (h : c.Ok) (i : Int) : (Col.mk ⟨c.s.A, (c.s.M.ackR c.s.A i).M⟩ c.C).Ok ∧ c.Like ⟨⟨c.s.A, (c.s.M.ackR c.s.A i).M⟩, c.C⟩ := by
  obtain ⟨a1, a2, a3, a4, a5, a6⟩ := Sys.ack_next h.s i
  refine ⟨⟨a1, safe_ack h.safe i, ?_, ?_, ?_, ackR_sn _ _ h.sn, ?_⟩, ⟨a4, a5, rfl⟩⟩
  · dsimp only; rw [a5]; exact h.sz
  · dsimp only; rw [a2, a5]; exact h.a4
  · dsimp only; rw [a2, a5]; exact h.a5
  · dsimp only; rw [a2, a3]; exact h.bg
def Col.acks (c : Col) (k : Nat) : Col := ⟨c.s.acks k, c.C⟩
theorem Col.acks_ok {c : Col} (h : c.Ok) : ∀ k, (c.acks k).Ok ∧ c.Like (c.acks k)
  | 0 => ⟨h, Col.Like.refl c⟩
  | k + 1 => by
    obtain ⟨h1, h2⟩ := Col.acks_ok h k
    obtain ⟨h3, h4⟩ := Col.ack_ok h1 k
    exact ⟨h3, h2.trans h4⟩
theorem acks_idle {s : Sys} (hp : ¬ (s.M.K.ph = 1 ∨ s.M.K.ph = 2)) : ∀ k, s.acks k = s
  | 0 => rfl
  | k + 1 => by
    show Sys.mk (s.acks k).A ((s.acks k).M.ackR (s.acks k).A k).M = s
    rw [acks_idle hp k]
    unfold Mk.ackR
    split
    · rfl
    · rfl
theorem acks_all {c : Col} (h : c.Ok) (hp : c.s.M.K.ph = 1 ∨ c.s.M.K.ph = 2) : (c.s.acks c.s.M.K.many).M.K.all = true := by
  obtain ⟨h1, h2, h3, h4, h5, h6, h7⟩ := Sys.acks_next h.s c.s.M.K.many
  refine Ck.all_of (fun i => ?_)
  rw [Sys.acks_seen hp h.s _ (Nat.le_refl _), h5]
  have := h.sn i
  cases e : c.s.M.K.seen i
  · simp
  · have := this e
    simp [this]
def Col.mu (c : Col) : Nat :=
  if c.s.M.K.ph = 0 then 0 else if c.s.M.K.ph = 1 then 3 * c.s.M.P.n + 3 else if c.s.M.K.ph = 2 then 3 * c.s.M.P.n + 2 else if c.s.M.K.ph = 3 then (c.s.M.P.n - blkN c.s.M.P.c c.s.M.P.n) + 1 + 2 * c.s.M.P.n
  else if c.s.M.K.ph = 4 then (c.s.M.P.n - c.C.at') + c.s.M.P.n else c.s.M.P.n - c.C.S.next
def Col.round (c : Col) : CyRes := (c.acks c.s.M.K.many).stepR true
theorem Col.round_ok {c : Col} (h : c.Ok) : c.round.c.Ok ∧ c.Like c.round.c := by
  obtain ⟨h1, h2⟩ := Col.acks_ok h c.s.M.K.many
  obtain ⟨h3, h4⟩ := Col.step_ok h1 true
  exact ⟨h3, h2.trans h4⟩
theorem Col.round_mu {c : Col} (h : c.Ok) (hp : c.s.M.K.ph ≠ 0) : c.round.c.mu < c.mu ∧ c.round.c.C.asked = c.C.asked ∧ c.round.c.C.begun = c.C.begun ∧ (c.round.c.s.M.K.ph = 0 → c.round.c.s.M.K.cy = c.s.M.K.cy + 1) ∧ (c.round.c.s.M.K.ph ≠ 0 → c.round.c.s.M.K.cy = c.s.M.K.cy) := by
  obtain ⟨h1, hl⟩ := Col.acks_ok h c.s.M.K.many
  obtain ⟨_, _, a3, a4, a5, a6, _⟩ := Sys.acks_next h.s c.s.M.K.many
  have hp5 := h.s.m.ph
  have hlN : (c.acks c.s.M.K.many).s.M.P.n = c.s.M.P.n := a6
  have hph : (c.acks c.s.M.K.many).s.M.K.ph = c.s.M.K.ph := a3
  have hcy : (c.acks c.s.M.K.many).s.M.K.cy = c.s.M.K.cy := a4
  unfold Col.round Col.stepR
  rw [if_neg (by rw [hph]; exact hp), hph]
  by_cases h4 : c.s.M.K.ph = 4
  · rw [if_pos h4]
    have e : c.acks c.s.M.K.many = c := by unfold Col.acks; rw [acks_idle (by omega)]
    rw [e]
    obtain ⟨d1, d2, d3, d4, d5, d6, d7, d8⟩ := Col.discover_ok h h4
    have hat := h.a4 h4
    have hd : c.discover.mu < c.mu := by
      unfold Col.mu
      rw [d2.2.1]
      rcases d8 with ⟨x1, x2, x3⟩ | ⟨x1, x2, x3⟩
      · rw [x2, x3, h4]; simp; omega
      · rw [x2, x3, h4]; simp; omega
    have hph' : c.discover.s.M.K.ph ≠ 0 := by rcases d8 with ⟨_, x2, _⟩ | ⟨_, x2, _⟩ <;> omega
    split
    · rw [if_pos rfl]
      exact ⟨hd, d4, d3, fun hx => absurd hx hph', fun _ => d7⟩
    · exact ⟨hd, d4, d3, fun hx => absurd hx hph', fun _ => d7⟩
  rw [if_neg h4]
  by_cases h5 : c.s.M.K.ph = 5
  · rw [if_pos h5]
    have e : c.acks c.s.M.K.many = c := by unfold Col.acks; rw [acks_idle (by omega)]
    rw [e]
    obtain ⟨d1, d2, d3, d4, d5, d8⟩ := Col.sweep_ok h h5
    have hat := h.a5 h5
    refine ⟨?_, d4, d3, ?_, ?_⟩
    · unfold Col.mu
      dsimp only
      rw [d2.2.1]
      rcases d8 with ⟨x1, x2, x3⟩ | ⟨x1, x2, x3, _⟩
      · rw [x2, h5]; simp; omega
      · rw [x2, x3, h5]; simp; omega
    · intro hx
      rcases d8 with ⟨x1, x2, x3⟩ | ⟨x1, x2, x3, _⟩
      · exact x3
      · dsimp only at hx; omega
    · intro hx
      rcases d8 with ⟨x1, x2, x3⟩ | ⟨x1, x2, x3, x4, _⟩
      · dsimp only at hx; omega
      · exact x4
  rw [if_neg h5]
  obtain ⟨m1, m2, m3, m4, m5, m6, m7, m8⟩ := Col.mark_ok h1 (by omega)
  refine ⟨?_, m6, m5, fun hx => ?_, fun _ => by rw [← hcy]; exact m7⟩
  · by_cases h3 : c.s.M.K.ph = 3
    · have e : c.acks c.s.M.K.many = c := by unfold Col.acks; rw [acks_idle (by omega)]
      rw [e] at m2 m3 m8 ⊢
      obtain ⟨_, _, g3⟩ := gs_trace (H := c.s.A.H) h.s.m h.s.g
      have es : c.s.M.stepR c.s.A = c.s.M.traceR c.s.A.H := by unfold Mk.stepR; rw [if_neg (by omega), if_neg (by omega), if_pos h3]
      rcases g3 with ⟨gk, gn⟩ | ⟨gk, gn, gb⟩
      · have p4 : c.mark.s.M.K.ph = 4 := by
          show (c.s.M.stepR c.s.A).K.ph = 4
          rw [es, gk]; show (c.s.M.K.ph + 1) % 6 = 4; omega
        unfold Col.mu
        dsimp only
        rw [m2.2.1, p4, m8 p4, h3]; simp; omega
      · have p3 : c.mark.s.M.K.ph = 3 := by
          show (c.s.M.stepR c.s.A).K.ph = 3
          rw [es, gk]; exact h3
        have hb : blkN c.s.M.P.c c.s.M.P.n < blkN c.mark.s.M.P.c c.s.M.P.n := by
          show _ < blkN (c.s.M.stepR c.s.A).P.c _
          rw [es]; exact gb
        have hle := blkN_le c.mark.s.M.P.c c.s.M.P.n
        unfold Col.mu
        dsimp only
        rw [m2.2.1, p3, h3]; simp; omega
    · have hall := acks_all h (by omega)
      have hrd : (c.acks c.s.M.K.many).s.M.K.ready = true := by
        show (((c.acks c.s.M.K.many).s.M.K.ph == 1 || (c.acks c.s.M.K.many).s.M.K.ph == 2) && (c.s.acks c.s.M.K.many).M.K.all) = true
        rw [hall, hph]
        rcases (by omega : c.s.M.K.ph = 1 ∨ c.s.M.K.ph = 2) with e | e <;> rw [e] <;> rfl
      have hK : (c.acks c.s.M.K.many).mark.s.M.K = (c.acks c.s.M.K.many).s.M.K.go := by
        show ((c.acks c.s.M.K.many).s.M.stepR (c.acks c.s.M.K.many).s.A).K = _
        unfold Mk.stepR
        by_cases e1 : c.s.M.K.ph = 1
        · rw [if_pos (by omega), if_pos hrd]; rfl
        · rw [if_neg (by omega), if_pos (by omega), if_pos hrd]
      have hn := m2.2.1
      have hp' : (c.acks c.s.M.K.many).mark.s.M.K.ph = (c.s.M.K.ph + 1) % 6 := by rw [hK]; show ((c.acks c.s.M.K.many).s.M.K.ph + 1) % 6 = _; rw [hph]
      unfold Col.mu
      dsimp only
      rw [hn, hlN, hp']
      rcases (by omega : c.s.M.K.ph = 1 ∨ c.s.M.K.ph = 2) with e | e
      · rw [e]; simp
      · rw [e]; simp; omega
  · dsimp only at hx; omega
theorem lostAt_none {s : Sys} {i : Nat} (h : s.M.P.c i ≠ 0 ∨ s.A.H.T.st i ≠ 1) : s.lostAt i = (.no, false) := by unfold Sys.lostAt; rw [if_pos h]
theorem lostAt_some {s : Sys} {i : Nat} (h1 : s.M.P.c i = 0) (h2 : s.A.H.T.st i = 1) : s.lostAt i = (⟨i, s.A.H.T.gn i⟩, (s.A.H.ob i).h) := by unfold Sys.lostAt; rw [if_neg (by rintro (h | h); exact h h1; exact h h2)]
end Go.Proofs.YtnjgkhgdgpahfaaGreat

namespace Go.Proofs.YtnjgkhgdgpahfaaGreat
open Go.RowKit
set_option linter.unusedVariables false
set_option linter.unusedSimpArgs false
set_option linter.unusedSectionVars false

def cyArr (m b n many : Nat) (C : Cyc) : Array Value := #[.pointer (some ⟨m, 0, none⟩), .pointer (some ⟨b, 0, none⟩), .int .i64 n, .int .i64 many, .int .i64 C.at', .int .i64 C.begun, .bool C.asked]
structure Quad (w0 w : World) (a m b c : Nat) (LA : ArL) (LM : MkL) (k : Col) : Prop where
  tr : Trio w0 w a m b LA LM k.s k.C.S
  own : w.heap[c]? = some (.cells (cyArr m b k.s.M.P.n k.s.M.K.many k.C) 56)
  hc : w0.heap.size ≤ c
def foot3 (LA : ArL) (LM : MkL) (b c : Nat) (s : Sys) (y : Nat) : Prop := y = c ∨ y = b ∨ foot2 LA LM s y
theorem Both.not_foot {w0 w : World} {a m : Nat} {LA : ArL} {LM : MkL} {s : Sys} (h : Both w0 w a m LA LM s) {x : Nat} {cs : Array Value} {t : TypeId} (hx : w.heap[x]? = some (.cells cs t)) (h1 : 149 ≠ t) (h2 : 220 ≠ t) (h3 : 152 ≠ t) (h4 : 155 ≠ t)
    (h5 : 196 ≠ t) (h6 : 192 ≠ t) (h7 : 201 ≠ t) (h8 : 203 ≠ t) : ¬ foot2 LA LM s x := by
  obtain ⟨ha, hm, _, _⟩ := h
  obtain ⟨_, _, hhp, ⟨cg, hcg, _⟩, hst, _⟩ := ha
  obtain ⟨⟨cy, hcy, _⟩, ⟨cz, hcz, _⟩, _, _⟩ := hhp
  obtain ⟨_, _, ek, ⟨ep, hep, _⟩, ⟨es, hes, _⟩, eb, _⟩ := hm
  rintro (h | h)
  · rcases h with h | h | h | ⟨k, hk, h⟩
    · exact type_ne hcy hx h1 h.symm
    · exact type_ne hcz hx h2 h.symm
    · exact type_ne hcg hx h3 h.symm
    · obtain ⟨c, hc, _⟩ := hst k hk; exact type_ne hc hx h4 h.symm
  · rcases h with h | h | h | ⟨k, hk, h⟩
    · exact type_ne ek.own hx h5 h.symm
    · exact type_ne hep hx h6 h.symm
    · exact type_ne hes hx h7 h.symm
    · obtain ⟨c, hc, _⟩ := eb k hk; exact type_ne hc hx h8 h.symm
theorem Both.oth {w0 w w' : World} {a m : Nat} {LA : ArL} {LM : MkL} {s : Sys} (h : Both w0 w a m LA LM s) {x : Nat} {cs : Array Value} {t : TypeId} (hx : w.heap[x]? = some (.cells cs t)) (hk : Keeps (fun y => y = x) w w') (hb : w0.heap.size ≤ x)
    (h1 : 149 ≠ t) (h2 : 220 ≠ t) (h3 : 152 ≠ t) (h4 : 155 ≠ t)
    (h5 : 196 ≠ t) (h6 : 192 ≠ t) (h7 : 201 ≠ t) (h8 : 203 ≠ t) (h9 : 76 ≠ t) (h10 : 70 ≠ t) (h11 : 113 ≠ t) (h12 : 120 ≠ t) : Both w0 w' a m LA LM s := by
  obtain ⟨ha, hm, hkp, hsep⟩ := h
  obtain ⟨⟨cx, hcx, _⟩, hox, hhp, ⟨cg, hcg, _⟩, hst, _⟩ := id ha
  obtain ⟨⟨cy, hcy, _⟩, ⟨cz, hcz, _⟩, _, _⟩ := hhp
  obtain ⟨ex, ⟨er, her, _⟩, ek, ⟨ep, hep, _⟩, ⟨es, hes, _⟩, eb, _⟩ := id hm
  refine ⟨ha.keeps hk (type_ne hcx hx h9) (type_ne hox hx h10) (type_ne hcy hx h1) (type_ne hcz hx h2) (type_ne hcg hx h3) (fun k hk => ?_), hm.keeps hk (type_ne ex hx h11) (type_ne ek.own hx h5) (type_ne hep hx h6) (type_ne hes hx h7) (type_ne her hx h12) (fun k hk => ?_), hkp.trans' hk (fun _ _ h => h) (fun y hy h => by omega), hsep⟩
  · obtain ⟨c, hc, _⟩ := hst k hk; exact type_ne hc hx h4
  · obtain ⟨c, hc, _⟩ := eb k hk; exact type_ne hc hx h8
section
variable {w0 w w' : World} {a m b c : Nat} {LA : ArL} {LM : MkL} {k : Col}

theorem Quad.same (h : Quad w0 w a m b c LA LM k) (hk : Keeps (fun _ => False) w w') : Quad w0 w' a m b c LA LM k :=
  ⟨h.tr.same hk, block_keep h.own hk (fun h => h), h.hc⟩
theorem Quad.cfoot (h : Quad w0 w a m b c LA LM k) : ¬ (c = b ∨ foot2 LA LM k.s c) := by
  rintro (e | e)
  · exact type_ne h.own h.tr.sw.own (by decide) e
  · exact h.tr.both.not_foot h.own (by decide) (by decide) (by decide) (by decide) (by decide) (by decide) (by decide) (by decide) e
theorem Quad.trio {s' : Sys} {S' : Sw} (h : Quad w0 w a m b c LA LM k) (hk : Keeps (fun y => y = b ∨ foot2 LA LM k.s y) w w') (ht : Trio w0 w' a m b LA LM s' S') (hn : s'.M.P.n = k.s.M.P.n) (hm : s'.M.K.many = k.s.M.K.many) : Quad w0 w' a m b c LA LM ⟨s', { k.C with S := S' }⟩ :=
  ⟨ht, by have := block_keep h.own hk h.cfoot; dsimp only; rw [hn, hm]; exact this, h.hc⟩
theorem Quad.both {s' : Sys} (h : Quad w0 w a m b c LA LM k) (hk : Keeps (foot2 LA LM k.s) w w') (hb : Both w0 w' a m LA LM s') (hn : s'.M.P.n = k.s.M.P.n) (hm : s'.M.K.many = k.s.M.K.many) : Quad w0 w' a m b c LA LM ⟨s', k.C⟩ :=
  h.trio (hk.mono (fun _ _ h => .inr h)) ⟨hb, h.tr.sw.keeps hk (h.tr.sw.foot h.tr.both), h.tr.hb⟩ hn hm
theorem Quad.coll {C' : Cyc} (h : Quad w0 w a m b c LA LM k) (hk : Keeps (fun y => y = c) w w') (hS : C'.S = k.C.S) (ho : w'.heap[c]? = some (.cells (cyArr m b k.s.M.P.n k.s.M.K.many C') 56)) : Quad w0 w' a m b c LA LM ⟨k.s, C'⟩ := by
  refine ⟨⟨?_, ?_, h.tr.hb⟩, ho, h.hc⟩
  · exact h.tr.both.oth h.own hk h.hc (by decide) (by decide) (by decide) (by decide) (by decide) (by decide) (by decide) (by decide) (by decide) (by decide) (by decide) (by decide)
  · dsimp only; rw [hS]
    exact h.tr.sw.keeps hk (fun e => h.cfoot (.inl e.symm))
end
end Go.Proofs.YtnjgkhgdgpahfaaGreat

/- Package cycle: steps by phases. -/
namespace Go.Proofs.YtnjgkhgdgpahfaaGreat
open Go.RowKit
set_option linter.unusedVariables false
set_option linter.unusedSimpArgs false
set_option linter.unusedSectionVars false

variable {w0 w w' : World} {a m b c : Nat} {LA : ArL} {LM : MkL} {k : Col}

theorem Quad.footlt (h : Quad w0 w a m b c LA LM k) : ∀ y, foot3 LA LM b c k.s y → y < w.heap.size := by
  rintro y (rfl | rfl | hy)
  · exact lt_block h.own
  · exact lt_block h.tr.sw.own
  · exact Both.footlt h.tr.both y hy
theorem Quad.far {W W' : World} {d : Col} (h : Quad w0 w a m b c LA LM k) (hW : Quad w0 W a m b c LA LM d) (hl : k.Like d) (hk : Keeps (fun y => w.heap.size ≤ y) W W') : Quad w0 W' a m b c LA LM d :=
  ⟨h.tr.farN hW.tr hl.2.2 hl.1 hk, block_keep hW.own hk (by have := lt_block h.own; omega), hW.hc⟩
theorem kfin {S : Nat → Prop} {w wA : World} {N : Nat} (hk : Keeps S w wA) (hN : w.heap.size ≤ N) (u v : Value) : Keeps S w ((wA.setCell ⟨N, 0, none⟩ u).setCell ⟨N, 1, none⟩ v) :=
  (hk.setCell (p := ⟨N, 0, none⟩) (.inr hN) u).setCell (p := ⟨N, 1, none⟩) (.inr hN) v
theorem kfin0 (wA : World) (N : Nat) (u v : Value) : Keeps (fun y => N ≤ y) wA ((wA.setCell ⟨N, 0, none⟩ u).setCell ⟨N, 1, none⟩ v) :=
  ((Keeps.refl (fun y => N ≤ y) wA).setCell (p := ⟨N, 0, none⟩) (.inl (Nat.le_refl _)) u).setCell (p := ⟨N, 1, none⟩) (.inl (Nat.le_refl _)) v
/- the object in a slot, and whether it is a handle that is not marked -/
end Go.Proofs.YtnjgkhgdgpahfaaGreat

/- Package cycle: discover, sweep; Step. -/
namespace Go.Proofs.YtnjgkhgdgpahfaaGreat
open Go.RowKit
set_option linter.unusedVariables false
set_option linter.unusedSimpArgs false
set_option linter.unusedSectionVars false

variable {w0 w w' : World} {a m b c : Nat} {LA : ArL} {LM : MkL} {k : Col}

end Go.Proofs.YtnjgkhgdgpahfaaGreat
