/- estraylaw25.SweepClean: plain laws. -/
import Derived.Test.YtehmoikbeflkaaaGreatCyA
import Derived.Test.YtehmoikbeflkaaaGreatPrA
import Derived.Test.YtehmoikbeflkaaaGreatRcM
namespace Go.Proofs.YtehmoikbeflkaaaGreat
open Go.RowKit
set_option linter.unusedVariables false
set_option linter.unusedSimpArgs false

theorem mv_idle (x : Mv) {s : Sys} (ms : Nat) (h0 : s.M.K.ph = 0) : (x.doR s ms).M = s.M := by
  have told : ∀ (R : Res) (j : Int), (Sys.told R s j).M = s.M := fun R j => by
    unfold Sys.told
    dsimp only
    split
    · unfold Mk.wroteR
      split
      · rfl
      split
      · rfl
      · have hb : ∀ q, s.M.K.bar q = false := fun q => by unfold Ck.bar; rw [if_neg (by omega), decide_eq_false (by omega)]
        rw [hb]; rfl
    · rfl
  have made : ∀ r, (s.M.madeR r).1 = s.M := fun r => by
    unfold Mk.madeR
    split
    · rfl
    · rw [if_neg (by omega)]
  unfold Mv.doR
  split
  · dsimp only; rw [made]; split <;> rfl
  · dsimp only; rw [made]; split <;> rfl
  · exact told _ _
  · exact told _ _
  · rfl
  · exact told _ _
  · rfl
  · rfl
theorem moves_idle {s : Sys} (hok : s.Ok) (l : List Mv) (ms : Nat) (h0 : s.M.K.ph = 0) (k : Nat) : (s.moves l ms k).M = s.M := by
  induction k with
  | zero => rfl
  | succ k ih =>
    unfold Sys.moves
    split
    · rw [mv_idle _ _ (by rw [ih]; exact h0), ih]
    · exact ih
theorem got_ended (M : Mk) : ∀ j, ¬ Got M.endedR j := ended_clean M
theorem new_clean (n ms : Nat) : ∀ j, ¬ Got (Sys.new n ms).M j := by
  rintro j (h | ⟨i, hi, h⟩)
  · exact h rfl
  · cases h
theorem got_go {M : Mk} {j : Nat} (h : Got M.goR.1 j) : Got M j := by
  unfold Mk.goR at h
  split at h
  · exact h
  split at h
  · exact h
  · exact absurd h (ended_clean M j)
section
variable {L : Nat → Prop} {G : Nat → Int} {D : Nat → Bool}
theorem rounds_cl {s : Sys} (hok : s.Ok) (hp : s.M.K.ph = 0) (h : Cl L G D s.begun) : ∀ i, Cl L G D (s.begun.rounds [] i) ∧ (s.begun.rounds [] i).A = s.A
  | 0 => ⟨h, rfl⟩
  | i + 1 => by
    obtain ⟨ih, ia⟩ := rounds_cl hok hp h i
    have ho := (Half.all hok hp [] i).1
    rw [show (([] : List Mv).take 60) = [] from rfl] at ho
    show Cl L G D (if 4 ≤ (s.begun.rounds [] i).M.K.ph then s.begun.rounds [] i else (s.begun.rounds [] i).round [] i) ∧ (if 4 ≤ (s.begun.rounds [] i).M.K.ph then s.begun.rounds [] i else (s.begun.rounds [] i).round [] i).A = s.A
    split
    · exact ⟨ih, ia⟩
    · obtain ⟨o1, _, _⟩ := Sys.step_next ho
      have h1 := ih.step ho
      have ha : (s.begun.rounds [] i).step.A = (s.begun.rounds [] i).A := rfl
      show Cl L G D (s.begun.rounds [] i).step.answer ∧ (s.begun.rounds [] i).step.answer.A = s.A
      unfold Sys.answer
      split
      · exact ⟨h1.acks o1 _, (Sys.acks_next o1 _).2.1.trans (ha.trans ia)⟩
      · exact ⟨h1, ha.trans ia⟩
end
theorem marked_white {s : Sys} (hok : s.Ok) (hs : Safe s) (hp : s.M.K.ph = 0) (hc : ∀ j, ¬ Got s.M j) : (s.marked []).A = s.A ∧ ∀ r, There s.A.H r → ¬ Rch s.A r → (s.marked []).M.P.c r.s.toNat = 0 := by
  obtain ⟨h1, h2⟩ := rounds_cl hok hp (Cl.init hs hc).begun (2 * s.M.P.n + 21)
  have e : s.whole [] = s.begun.rounds [] (2 * s.M.P.n + 21) := by unfold Sys.whole; rw [List.take_nil]
  have em : s.marked [] = ⟨(s.whole []).A, (s.whole []).M.goR.1⟩ := by unfold Sys.marked; rfl
  rw [em, e]
  generalize s.begun.rounds [] (2 * s.M.P.n + 21) = t at h1 h2 ⊢
  refine ⟨h2, fun r ht hr => Decidable.not_not.1 fun hx => ?_⟩
  obtain ⟨t1, t2, t3, t4, t5⟩ := ht.lt
  exact h1.got r.s.toNat ⟨t3, t4, fun h => hr (ht.eta ▸ h)⟩ (got_go (M := t.M) (.inl hx))
/-! a sweep -/
structure Sc (s0 : Sys) (n i : Nat) (s : Sys) (S : Sw) : Prop where
  kp : ∃ fr, Kp s0 n i s S fr
  rc : ∀ q, Rch s.A q ↔ Rch s0.A q
  th : ∀ q, There s.A.H q → There s0.A.H q
  many : s.A.many = s0.A.many
  K : s.M.K = s0.M.K
theorem Sc.zero {s : Sys} {n : Nat} (h1 : s.Ok) (h2 : Safe s) (h3 : s.M.K.ph = 5) (h4 : s.M.P.n = n) : Sc s n 0 s ⟨n, 0, 0⟩ :=
  ⟨⟨[], Kp.zero h1 h2 h3 h4⟩, fun _ => Iff.rfl, fun _ h => h, rfl, rfl⟩
theorem Sc.next {s0 s : Sys} {n i : Nat} {S : Sw} (h : Sc s0 n i s S) (hi : i < n) : Sc s0 n (i + 1) (S.stepR s).s (S.stepR s).S := by
  obtain ⟨fr, hk⟩ := h.kp
  obtain ⟨k1, _, _, _, _, k6, k7, _⟩ := hk.step hi
  have hS : S.next = i := by rw [hk.S]
  have key : (∀ q, Rch (S.stepR s).s.A q ↔ Rch s.A q) ∧ ∀ q, There (S.stepR s).s.A.H q → There s.A.H q := by
    unfold Sw.stepR
    split
    · exact ⟨fun _ => Iff.rfl, fun _ h => h⟩
    · rename_i hc
      have c0 : s.M.P.c S.next = 0 := Decidable.not_not.1 fun hx => hc (.inl hx)
      have s1 : s.A.H.T.st S.next = 1 := Decidable.not_not.1 fun hx => hc (.inr hx)
      have hin : S.next < s.A.H.T.n := by rw [hk.ok.n, hk.nn, hS]; exact hi
      have ht : There s.A.H ⟨S.next, s.A.H.T.gn S.next⟩ := There.of (by simp) (by simpa using hin) (by simpa using s1) (by simp)
      have hr : ¬ Rch s.A ⟨S.next, s.A.H.T.gn S.next⟩ := fun hx => hk.safe.p5 (by rw [hk.ph]; omega) _ hx (by simpa using c0)
      have hf := frd_take hk.ok.a hk.safe.nd (l := [⟨S.next, s.A.H.T.gn S.next⟩]) (fun r hr' => by rw [List.mem_singleton.1 hr']; exact ⟨ht, hr⟩) (by simp) 1 (Nat.le_refl _)
      have e : (s.free S.next).A = freeds s.A ([⟨S.next, s.A.H.T.gn S.next⟩].take 1) := rfl
      dsimp only
      rw [e]
      exact ⟨hf.rc, fun q hq => ((hf.th q).1 hq).1⟩
  exact ⟨⟨_, k1⟩, fun q => (key.1 q).trans (h.rc q), fun q hq => h.th q (key.2 q hq), k6.trans h.many, k7.trans h.K⟩
theorem Sc.done {s0 s : Sys} {n : Nat} {S : Sw} (h : Sc s0 n n s S) (hok : s0.Ok) (hn : s0.M.P.n = n) (hw : ∀ r, There s0.A.H r → ¬ Rch s0.A r → s0.M.P.c r.s.toNat = 0) : ∀ r, r ∈ s.A.H.T.tk ↔ Rch s.A r := by
  obtain ⟨fr, hk⟩ := h.kp
  refine fun r => ⟨fun hr => Classical.byContradiction fun hx => ?_, fun hr => (tk_iff rfl).2 (hk.safe.nd r hr)⟩
  have ht := h.th r ((tk_iff rfl).1 hr)
  have hc := hw r ht fun hy => hx ((h.rc r).2 hy)
  refine hk.done hr ?_
  rw [← hn, ← un_tk s0 hok.n]
  exact List.mem_filter.2 ⟨(tk_iff rfl).2 ht, by simpa using hc⟩
theorem step_none {s : Sys} (hok : s.Ok) (hs : Safe s) (hp : s.M.K.ph = 5) (hall : ∀ r, There s.A.H r → Rch s.A r) {n i : Nat} (hn : s.M.P.n = n) (hi : i < n) : (Sw.mk n i 0).stepR s = ⟨⟨n, i + 1, 0⟩, s, .no, false⟩ := by
  unfold Sw.stepR
  rw [if_pos]
  by_cases h1 : s.A.H.T.st i = 1
  · left
    have hin : i < s.A.H.T.n := by rw [hok.n, hn]; exact hi
    have ht : There s.A.H ⟨i, s.A.H.T.gn i⟩ := There.of (by simp) (by simpa using hin) (by simpa using h1) (by simp)
    have := hs.p5 (by omega) _ (hall _ ht)
    simpa using this
  · exact .inr h1
structure Cln (s : Sys) (n ms : Nat) : Prop where
  ok : s.Ok
  safe : Safe s
  ph : s.M.K.ph = 5
  nn : s.M.P.n = n
  kk : s.M.K.many = ms
  cy : s.M.K.cy ≤ 1
  all : ∀ r, There s.A.H r → ¬ Rch s.A r → s.M.P.c r.s.toNat = 0
theorem made_cln {n ms : Nat} (n1 : 1 ≤ n) (n2 : n ≤ 256) (k1 : 1 ≤ ms) (k4 : ms ≤ 4) (l : List Mv) : Cln (Sys.made n ms l []) n ms := by
  obtain ⟨a1, a2, a3, a4, a5⟩ := made_all n1 n2 k1 k4 l []
  have hok := Sys.Ok.new n1 n2 k1 k4
  have hn := Sys.moves_next hok (l.take 60) ms (l.take 60).length
  have hm := moves_idle hok (l.take 60) ms rfl (l.take 60).length
  obtain ⟨w1, w2⟩ := marked_white hn.ok (safe_moves hok (safe_new n ms) (l.take 60) k1 (Nat.le_refl _) _).1 (by rw [hn.K]; rfl) (by rw [hm]; exact new_clean n ms)
  refine ⟨a1, made_safe n1 n2 k1 k4 l [], a2, a5, a4, by rw [a3]; omega, ?_⟩
  unfold Sys.made
  rw [w1]
  exact w2
def Sys.ended (s : Sys) : Sys := ⟨s.A, s.M.goR.1⟩
theorem Sc.ended {s0 s : Sys} {n ms : Nat} {S : Sw} (hc : Cln s0 n ms) (h : Sc s0 n n s S) : s.ended.Ok ∧ s.ended.M.K.ph = 0 ∧ s.ended.M.P.n = n ∧ s.ended.M.K.many = ms ∧ s.ended.M.K.cy ≤ 2 ∧ s.M.goR.2 = 0 ∧ s.M.K.cy ≤ 1 ∧ s.A.many = ms ∧ s.A.H.T.n = n ∧ s.A.Ok ∧ s.Ok := by
  obtain ⟨fr, hk⟩ := h.kp
  have e := goR_5 hk.ph
  have hK := h.K
  have h1 := hc.cy; have h2 := hc.kk
  have e2 : s.M.goR.2 = 0 := by unfold Mk.goR; rw [if_neg (by have := hk.ph; omega), if_neg (by have := hk.ph; omega)]
  have hm := hk.ok.k
  have hnn := hk.ok.n
  refine ⟨hk.ok.go5 hk.ph, ?_, ?_, ?_, ?_, e2, by rw [hK]; exact h1, by rw [hm, hK]; exact h2, by rw [hnn]; exact hk.nn, hk.ok.a, hk.ok⟩
  · show s.M.goR.1.K.ph = 0; rw [e]; show (s.M.K.ph + 1) % 6 = 0; rw [hk.ph]
  · show s.M.goR.1.P.n = n; rw [e]; exact hk.nn
  · show s.M.goR.1.K.many = ms; rw [e]; show s.M.K.many = ms; rw [hK]; exact h2
  · show s.M.goR.1.K.cy ≤ 2; rw [e]; show (if s.M.K.ph = 5 then s.M.K.cy + 1 else s.M.K.cy) ≤ 2; rw [hK]; split <;> omega
theorem Sc.again {s0 s : Sys} {n ms : Nat} {S : Sw} (hc : Cln s0 n ms) (h : Sc s0 n n s S) : (s.ended.marked []).Ok ∧ (s.ended.marked []).A = s.A ∧ (s.ended.marked []).M.K.ph = 5 ∧ (s.ended.marked []).M.P.n = n ∧
    ∀ i, i < n → (Sw.mk n i 0).stepR (s.ended.marked []) = ⟨⟨n, i + 1, 0⟩, s.ended.marked [], .no, false⟩ := by
  obtain ⟨fr, hk⟩ := h.kp
  obtain ⟨e1, e2, e3, e4, e5, e6, _⟩ := h.ended hc
  have hs : Safe s.ended := safe_go hk.ok hk.safe
  obtain ⟨w1, _⟩ := marked_white e1 hs e2 (by show ∀ j, ¬ Got s.M.goR.1 j; rw [goR_5 hk.ph]; exact ended_clean _)
  obtain ⟨m1, m2, m3, m4, m5⟩ := marked_all e1 e2 []
  have hA : (s.ended.marked []).A = s.A := w1
  have hn : (s.ended.marked []).M.P.n = n := m5.trans e3
  refine ⟨m1, hA, m2, hn, fun i hi => step_none m1 (safe_marked e1 hs e2 []) m2 (fun r hr => ?_) hn hi⟩
  rw [hA] at hr ⊢
  exact (h.done hc.ok hc.nn hc.all r).1 ((tk_iff rfl).2 hr)
end Go.Proofs.YtehmoikbeflkaaaGreat
