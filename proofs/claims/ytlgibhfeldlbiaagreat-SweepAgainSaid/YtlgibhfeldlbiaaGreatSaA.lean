/- estraylaw25.SweepAgain, SweepApart: plain laws: the sweep of slots without moves; systems that lie apart. -/
import Derived.Test.YtlgibhfeldlbiaaGreatNgE
import Derived.Test.YtlgibhfeldlbiaaGreatKpA
namespace Go.Proofs.YtlgibhfeldlbiaaGreat
open Go.RowKit
set_option linter.unusedVariables false
set_option linter.unusedSimpArgs false

/-- the slots below i are swept -/
def Sys.swp (s : Sys) : Nat → Sys
  | 0 => s
  | i + 1 => ((Sw.mk 0 i 0).stepR (s.swp i)).s
/-- .. and so many objects were freed -/
def Sys.swn (s : Sys) : Nat → Nat
  | 0 => 0
  | i + 1 => s.swn i + if ((Sw.mk 0 i 0).stepR (s.swp i)).is = true then 1 else 0

theorem stepR_of (n k c : Nat) (s : Sys) : ((Sw.mk n k c).stepR s).s = ((Sw.mk 0 k 0).stepR s).s ∧ ((Sw.mk n k c).stepR s).S = ⟨n, k + 1, c + if ((Sw.mk 0 k 0).stepR s).is = true then 1 else 0⟩ ∧ ((Sw.mk n k c).stepR s).is = ((Sw.mk 0 k 0).stepR s).is := by
  unfold Sw.stepR
  dsimp only
  split
  · exact ⟨rfl, rfl, rfl⟩
  · exact ⟨rfl, rfl, rfl⟩
theorem swp_step (s : Sys) (n i : Nat) : ((Sw.mk n i (s.swn i)).stepR (s.swp i)).s = s.swp (i + 1) ∧ ((Sw.mk n i (s.swn i)).stepR (s.swp i)).S = ⟨n, i + 1, s.swn (i + 1)⟩ :=
  ⟨(stepR_of n i _ _).1, (stepR_of n i _ _).2.1⟩

/-- what stays: a slot is done, or is as it was -/
theorem free_st {s : Sys} (h : s.Ok) {i : Nat} (hi : i < s.A.H.T.n) (hs : s.A.H.T.st i = 1) (hc : s.M.P.c i = 0) : (s.free i).M = s.M ∧ (s.free i).A.H.T.st i ≠ 1 ∧ ∀ j, j ≠ i → (s.free i).A.H.T.st j = s.A.H.T.st j := by
  refine ⟨?_, ?_, ?_⟩
  · have hp : s.M.P.put i 0 = s.M.P := by
      unfold Pt.put
      have : updf s.M.P.c i 0 = s.M.P.c := by
        funext j
        by_cases ej : j = i
        · subst ej; rw [updf_same, hc]
        · rw [updf_ne _ _ ej]
      rw [this]
    rw [Sys.free_M (s := s) (by rw [← h.n]; exact hi), hp]
  · have e : (s.free i).A.H.T = s.A.H.T.give i := by
      show (s.A.H.freeR ⟨i, s.A.H.T.gn i⟩).1.T = _
      unfold Hp.freeR
      rw [if_neg (by rw [Decidable.not_not]; exact ckV_tk hi hs)]
      show s.A.H.T.give (Int.toNat (i : Int)) = _
      rw [Int.toNat_natCast]
    rw [e]
    unfold Tb.give Tb.put
    split <;> simp [upd]
  · intro j hj
    have e : (s.free i).A.H.T = s.A.H.T.give i := by
      show (s.A.H.freeR ⟨i, s.A.H.T.gn i⟩).1.T = _
      unfold Hp.freeR
      rw [if_neg (by rw [Decidable.not_not]; exact ckV_tk hi hs)]
      show s.A.H.T.give (Int.toNat (i : Int)) = _
      rw [Int.toNat_natCast]
    rw [e]
    unfold Tb.give Tb.put
    split <;> simp [upd, hj]

structure Swept (s : Sys) (i : Nat) : Prop where
  ok : (s.swp i).Ok
  M : (s.swp i).M = s.M
  many : (s.swp i).A.many = s.A.many
  n : (s.swp i).A.H.T.n = s.A.H.T.n
  gone : ∀ j, j < i → s.M.P.c j ≠ 0 ∨ (s.swp i).A.H.T.st j ≠ 1
  cnt : s.swn i ≤ i

theorem swept {s : Sys} (h : s.Ok) : ∀ i, i ≤ s.M.P.n → Swept s i
  | 0, _ => ⟨h, rfl, rfl, rfl, fun j hj => by omega, Nat.le_refl _⟩
  | i + 1, hi => by
    have ih := swept h i (by omega)
    have hcnt : s.swn (i + 1) ≤ i + 1 := by
      have := ih.cnt
      show s.swn i + (if _ then 1 else 0) ≤ _
      split <;> omega
    by_cases hc : (s.swp i).M.P.c i ≠ 0 ∨ (s.swp i).A.H.T.st i ≠ 1
    · have e : s.swp (i + 1) = s.swp i := by
        show ((Sw.mk 0 i 0).stepR (s.swp i)).s = _
        unfold Sw.stepR; dsimp only; rw [if_pos hc]
      refine ⟨e ▸ ih.ok, e ▸ ih.M, e ▸ ih.many, e ▸ ih.n, fun j hj => ?_, hcnt⟩
      rw [e]
      rcases Nat.lt_succ_iff_lt_or_eq.1 hj with hj | rfl
      · exact ih.gone j hj
      · rw [← ih.M]; exact hc
    · have e : s.swp (i + 1) = (s.swp i).free i := by
        show ((Sw.mk 0 i 0).stepR (s.swp i)).s = _
        unfold Sw.stepR; dsimp only; rw [if_neg hc]
      have h0 : (s.swp i).M.P.c i = 0 := Decidable.not_not.1 (fun hx => hc (.inl hx))
      have h1 : (s.swp i).A.H.T.st i = 1 := Decidable.not_not.1 (fun hx => hc (.inr hx))
      have hin : i < (s.swp i).A.H.T.n := by rw [ih.n, h.n]; omega
      obtain ⟨f1, f2, f3⟩ := free_st ih.ok hin h1 h0
      have fn := Ar.freeR_n (s.swp i).A ⟨i, (s.swp i).A.H.T.gn i⟩
      refine ⟨e ▸ ih.ok.free (by rw [← ih.ok.n]; exact hin) h0, ?_, ?_, ?_, fun j hj => ?_, hcnt⟩
      · rw [e, f1, ih.M]
      · rw [e]; exact fn.2.trans ih.many
      · rw [e]; exact fn.1.trans ih.n
      · rw [e]
        rcases Nat.lt_succ_iff_lt_or_eq.1 hj with hj | rfl
        · rw [f3 j (by omega)]; exact ih.gone j hj
        · exact .inr f2

theorem Swept.chk {s : Sys} {n i : Nat} (h : Swept s i) (hok : s.Ok) (hn : s.M.P.n = n) (hp : s.M.K.ph = 5) (hi : i < n) (c : Nat) : (Sw.mk n i c).chk (s.swp i).A (s.swp i).M = 0 := by
  unfold Sw.chk
  have h1 := h.n; have h2 := hok.n
  rw [h.M]
  dsimp only
  rw [if_neg (by omega), if_neg (by omega)]

/-- sweeping again: what was swept stays as it is -/
theorem swp_again {s : Sys} (h : s.Ok) {k : Nat} (hk : k ≤ s.M.P.n) : ∀ i, i ≤ k → (s.swp k).swp i = s.swp k ∧ (s.swp k).swn i = 0
  | 0, _ => ⟨rfl, rfl⟩
  | i + 1, hi => by
    obtain ⟨e1, e2⟩ := swp_again h hk i (by omega)
    have hs := swept h k hk
    have hc := hs.gone i (by omega)
    rw [← hs.M] at hc
    constructor
    · show ((Sw.mk 0 i 0).stepR ((s.swp k).swp i)).s = _
      rw [e1]; unfold Sw.stepR; dsimp only; rw [if_pos hc]
    · show (s.swp k).swn i + (if ((Sw.mk 0 i 0).stepR ((s.swp k).swp i)).is = true then 1 else 0) = 0
      rw [e1, e2]; unfold Sw.stepR; dsimp only; rw [if_pos hc]; rfl
theorem swp_rest {s : Sys} (h : s.Ok) {k : Nat} (hk : k ≤ s.M.P.n) : ∀ d, (s.swp k).swp (k + d) = s.swp (k + d) ∧ s.swn k + (s.swp k).swn (k + d) = s.swn (k + d)
  | 0 => by
    obtain ⟨e1, e2⟩ := swp_again h hk k (Nat.le_refl _)
    exact ⟨e1, by show s.swn k + (s.swp k).swn k = _; rw [e2]; rfl⟩
  | d + 1 => by
    obtain ⟨e1, e2⟩ := swp_rest h hk d
    constructor
    · show ((Sw.mk 0 (k + d) 0).stepR ((s.swp k).swp (k + d))).s = ((Sw.mk 0 (k + d) 0).stepR (s.swp (k + d))).s
      rw [e1]
    · show s.swn k + ((s.swp k).swn (k + d) + (if ((Sw.mk 0 (k + d) 0).stepR ((s.swp k).swp (k + d))).is = true then 1 else 0)) = s.swn (k + d) + (if ((Sw.mk 0 (k + d) 0).stepR (s.swp (k + d))).is = true then 1 else 0)
      rw [e1, ← e2]; omega
theorem swp_end {s : Sys} (h : s.Ok) {k : Nat} (hk : k ≤ s.M.P.n) : (s.swp k).swp s.M.P.n = s.swp s.M.P.n ∧ s.swn k + (s.swp k).swn s.M.P.n = s.swn s.M.P.n := by
  have := swp_rest h hk (s.M.P.n - k)
  rwa [show k + (s.M.P.n - k) = s.M.P.n by omega] at this

/-- a system that lies in blocks from N on, below Z -/
structure TrioIn (w0 w : World) (N Z a m b : Nat) (LA : ArL) (LM : MkL) (s : Sys) (S : Sw) : Prop where
  tr : Trio w0 w a m b LA LM s S
  la : LA.Btw a s.A.many N Z
  lm : LM.Btw m s.M.K.many N Z
  b1 : N ≤ b
  b2 : b < Z
theorem TrioIn.foot {w0 w : World} {N Z a m b : Nat} {LA : ArL} {LM : MkL} {s : Sys} {S : Sw} (h : TrioIn w0 w N Z a m b LA LM s S) (y : Nat) (hy : y = b ∨ foot2 LA LM s y) : N ≤ y ∧ y < Z := by
  have h1 := h.b1; have h2 := h.b2
  obtain ⟨_, p2, p3, p4, p5, p6⟩ := h.la
  obtain ⟨_, q2, q3, q4, q5, q6⟩ := h.lm
  rcases hy with rfl | (hy | hy)
  · exact ⟨h1, h2⟩
  · rcases hy with rfl | rfl | rfl | ⟨k, hk, rfl⟩
    · exact p3
    · exact p4
    · exact p5
    · exact p6 k hk
  · rcases hy with rfl | rfl | rfl | ⟨k, hk, rfl⟩
    · exact q2
    · exact q3
    · exact q4
    · exact q6 k hk
theorem TrioIn.other {w0 w w' : World} {N Z a m b : Nat} {LA : ArL} {LM : MkL} {s : Sys} {S : Sw} {F : Nat → Prop} (h : TrioIn w0 w N Z a m b LA LM s S) (hk : Keeps F w w') (hF : ∀ y, F y → y < N ∨ Z ≤ y) (hF0 : ∀ y, F y → w0.heap.size ≤ y) : TrioIn w0 w' N Z a m b LA LM s S := by
  have nf : ∀ y, N ≤ y ∧ y < Z → ¬ F y := fun y hy hf => by have := hF y hf; omega
  obtain ⟨⟨⟨ha, hm, hkp, hsep⟩, hs, hb⟩, la, lm, b1, b2⟩ := h
  refine ⟨⟨⟨ha.keeps hk (nf _ la.a) (nf _ la.o) (nf _ la.b) (nf _ la.t) (nf _ la.g) (fun k hk => nf _ (la.ss k hk)), hm.keeps hk (nf _ lm.m) (nf _ lm.c) (nf _ lm.p) (nf _ lm.s) (nf _ lm.rb) (fun k hk => nf _ (lm.bb k hk)), ?_, hsep⟩, hs.keeps hk (nf _ ⟨b1, b2⟩), hb⟩, la, lm, b1, b2⟩
  exact hkp.trans' hk (fun _ _ h => h) (fun y hy hf => by have := hF0 y hf; omega)
/-- a system that lies below what is new -/
theorem Trio.within {w0 w : World} {a m b : Nat} {LA : ArL} {LM : MkL} {s : Sys} {S : Sw} (h : Trio w0 w a m b LA LM s S) : TrioIn w0 w w0.heap.size w.heap.size a m b LA LM s S := by
  have h2 := h
  obtain ⟨⟨ha, hm, hkp, l1, h1, l2, h2, g1, g2, _, ba, bm⟩, hs, hb⟩ := h2
  have ha2 := ha.btw; have hm2 := hm.btw
  have hbl := lt_block hs.own
  refine ⟨h, ⟨?_, ?_, ?_, ?_, ?_, fun k hk => ?_⟩, ⟨?_, ?_, ?_, ?_, ?_, fun k hk => ?_⟩, hb, hbl⟩
  · exact ⟨Nat.le_trans g1 ba.a.1, ha2.a.2⟩
  · exact ⟨Nat.le_trans g1 ba.o.1, ha2.o.2⟩
  · exact ⟨Nat.le_trans g1 ba.b.1, ha2.b.2⟩
  · exact ⟨Nat.le_trans g1 ba.t.1, ha2.t.2⟩
  · exact ⟨Nat.le_trans g1 ba.g.1, ha2.g.2⟩
  · exact ⟨Nat.le_trans g1 (ba.ss k hk).1, (ha2.ss k hk).2⟩
  · exact ⟨Nat.le_trans g2 bm.m.1, hm2.m.2⟩
  · exact ⟨Nat.le_trans g2 bm.c.1, hm2.c.2⟩
  · exact ⟨Nat.le_trans g2 bm.p.1, hm2.p.2⟩
  · exact ⟨Nat.le_trans g2 bm.s.1, hm2.s.2⟩
  · exact ⟨Nat.le_trans g2 bm.rb.1, hm2.rb.2⟩
  · exact ⟨Nat.le_trans g2 (bm.bb k hk).1, (hm2.bb k hk).2⟩
/-- a step -/
theorem TrioIn.step {w0 w : World} {N Z a m b : Nat} {LA : ArL} {LM : MkL} {s : Sys} {n i : Nat} (h : TrioIn w0 w N Z a m b LA LM (s.swp i) ⟨n, i, s.swn i⟩) (hok : s.Ok) (hn : s.M.P.n = n) (hp : s.M.K.ph = 5) (hi : i < n) :
    Calls Tryz.prog 79 #[.pointer (some ⟨b, 0, none⟩), .pointer (some ⟨a, 0, none⟩), .pointer (some ⟨m, 0, none⟩)] w fun e w' => ∃ (r : Rf) (is : Bool), e = .returned (.tuple #[r.val, .bool is, .int .i64 0]) ∧ TrioIn w0 w' N Z a m b LA LM (s.swp (i + 1)) ⟨n, i + 1, s.swn (i + 1)⟩ ∧ Keeps (fun y => N ≤ y ∧ y < Z) w w' := by
  have hs := swept hok i (by omega)
  have hs2 := swept hok (i + 1) (by omega)
  refine (trio_step h.tr hs.ok (hs.chk hok hn hp hi _)).mono ?_
  rintro e w' ⟨rfl, ht, hk⟩
  obtain ⟨e1, e2⟩ := swp_step s n i
  rw [e1, e2] at ht
  refine ⟨_, _, rfl, ⟨ht, ?_, ?_, h.b1, h.b2⟩, hk.mono (fun y _ hy => h.foot y hy)⟩
  · rw [hs2.many, ← hs.many]; exact h.la
  · rw [hs2.M, ← hs.M]; exact h.lm

/-- a system laid anew -/
theorem TrioIn.mk' {w0 W : World} {N Z a m b l1 h1 l2 h2 : Nat} {LA : ArL} {LM : MkL} {s : Sys} {S : Sw} (ha : ArIn W a LA s.A) (hm : MkIn W m LM s.M) (hs : SwAt W b S) (hk : Keeps (fun _ => False) w0 W) (la : LA.Btw a s.A.many l1 h1) (lm : LM.Btw m s.M.K.many l2 h2)
    (hd : h1 ≤ l2 ∨ h2 ≤ l1) (n1 : N ≤ l1) (n2 : N ≤ l2) (z1 : h1 ≤ Z) (z2 : h2 ≤ Z) (b1 : N ≤ b) (b2 : b < Z) (h0 : w0.heap.size ≤ N) : TrioIn w0 W N Z a m b LA LM s S := by
  have ua : ∀ x, l1 ≤ x ∧ x < h1 → N ≤ x ∧ x < Z := fun x hx => by omega
  have um : ∀ x, l2 ≤ x ∧ x < h2 → N ≤ x ∧ x < Z := fun x hx => by omega
  exact ⟨⟨⟨ha, hm, hk, l1, h1, l2, h2, Nat.le_trans h0 n1, Nat.le_trans h0 n2, hd, la, lm⟩, hs, Nat.le_trans h0 b1⟩, ⟨ua _ la.a, ua _ la.o, ua _ la.b, ua _ la.t, ua _ la.g, fun k hk => ua _ (la.ss k hk)⟩, ⟨um _ lm.m, um _ lm.c, um _ lm.p, um _ lm.s, um _ lm.rb, fun k hk => um _ (lm.bb k hk)⟩, b1, b2⟩
theorem TrioIn.same {w0 w w' : World} {N Z a m b : Nat} {LA : ArL} {LM : MkL} {s : Sys} {S : Sw} (h : TrioIn w0 w N Z a m b LA LM s S) (hk : Keeps (fun _ => False) w w') : TrioIn w0 w' N Z a m b LA LM s S :=
  h.other hk (fun _ h => h.elim) (fun _ h => h.elim)

end Go.Proofs.YtlgibhfeldlbiaaGreat
