/- Plain laws of CycleWaits: without room a handle waits; with room all are found, in order. -/
import Derived.Test.YtehmoikbeflkaaaGreatCfB
namespace Go.Proofs.YtehmoikbeflkaaaGreat
open Go.RowKit
set_option linter.unusedVariables false
set_option linter.unusedSimpArgs false

theorem tk_slots (T : Tb) : BySlot T.tk := by
  unfold Tb.tk BySlot
  generalize T.n = n
  induction n with
  | zero => simp [Tb.inn]
  | succ n ih =>
    by_cases h : T.st n = 1
    · rw [Tb.inn_yes h, List.map_append]
      refine List.pairwise_append.2 ⟨ih, by simp, fun x hx y hy => ?_⟩
      obtain ⟨⟨i, g⟩, hi, rfl⟩ := List.mem_map.1 hx
      have hlt := (Tb.inn_mem hi).2.2
      obtain rfl : y = rfOf (n, T.gn n) := by simpa using hy
      show ((i : Nat) : Int) ≤ (n : Nat)
      omega
    · rw [Tb.inn_no h]; exact ih
theorem handles_by (A : Ar) : BySlot A.handles ∧ A.handles.Nodup := by
  unfold Ar.handles Ar.lostL
  exact ⟨((tk_slots A.H.T).filter _).filter _, ((tk_nd A.H.T).filter _).filter _⟩
variable {d k : Col} {F : List Rf}
structure Fw (d k : Col) (F : List Rf) : Prop where
  f : Ff d.s.lostS d.s.A.H.T.gn (fun j => (d.s.A.H.ob j).h) d.s.M.K.cy k F
  a : 1 ≤ k.s.M.K.ph → k.s.M.K.ph ≤ 4 → k.s.A = d.s.A
  sub : ∀ x ∈ F, x ∈ d.s.A.handles
theorem lostAt_handle (hok : k.Ok) (hp : k.s.M.K.ph = 4) (h : (k.s.lostAt k.C.at').2 = true) : (k.s.lostAt k.C.at').1 ∈ k.s.A.handles := by
  unfold Sys.lostAt at h ⊢
  split
  · rename_i hx; rw [if_pos hx] at h; cases h
  · rename_i hx
    rw [if_neg hx] at h
    have c0 : k.s.M.P.c k.C.at' = 0 := Decidable.not_not.1 fun h => hx (.inl h)
    have s1 : k.s.A.H.T.st k.C.at' = 1 := Decidable.not_not.1 fun h => hx (.inr h)
    have hin : k.C.at' < k.s.A.H.T.n := by rw [hok.s.n]; exact hok.a4 hp
    have ht : There k.s.A.H ⟨k.C.at', k.s.A.H.T.gn k.C.at'⟩ := There.of (by simp) (by simpa using hin) (by simpa using s1) (by simp)
    refine List.mem_filter.2 ⟨(lost_iff hok.safe.nd).2 ⟨ht, fun hr => ?_⟩, by simpa using h⟩
    exact hok.safe.p5 (by omega) _ hr (by simpa using c0)
theorem Fw.step (h : Fw d k F) (hok : k.Ok) (room : Bool) : Fw d (k.stepR room).c ((k.stepR room).more F) := by
  have hp5 := hok.s.m.ph
  refine ⟨h.f.step hok room, fun h1 h4 => ?_, fun x hx => ?_⟩
  · by_cases h0 : k.s.M.K.ph = 0
    · rw [step_rest room h0 h.f.as'] at h1 ⊢
      exact absurd h0 (by have h1' : 1 ≤ k.s.M.K.ph := h1; omega)
    by_cases e4 : k.s.M.K.ph = 4
    · have ha := h.a (by omega) (by omega)
      have key : k.discover.s.A = k.s.A := by unfold Col.discover; split <;> rfl
      unfold Col.stepR
      rw [if_neg h0, if_pos e4]
      split
      · split
        · exact key.trans ha
        · exact ha
      · exact key.trans ha
    by_cases e5 : k.s.M.K.ph = 5
    · exfalso
      have e : (k.stepR room).c = k.sweep := by unfold Col.stepR; rw [if_neg h0, if_neg e4, if_pos e5]
      rw [e] at h1 h4
      have hs := (k.C.S.step_all hok.s (hok.a5 e5)).2.1
      unfold Col.sweep at h1 h4
      split at h1
      · rename_i hx
        rw [if_pos hx] at h4
        have h1' : 1 ≤ (k.C.S.stepR k.s).s.M.goR.1.K.ph := h1
        rw [goR_5 (by rw [hs]; exact e5)] at h1'
        have h2 : 1 ≤ ((k.C.S.stepR k.s).s.M.K.ph + 1) % 6 := h1'
        rw [hs, e5] at h2
        omega
      · rename_i hx
        rw [if_neg hx] at h4
        have h4' : (k.C.S.stepR k.s).s.M.K.ph ≤ 4 := h4
        rw [hs] at h4'
        omega
    · have ha := h.a (by omega) (by omega)
      have e : (k.stepR room).c = k.mark := by unfold Col.stepR; rw [if_neg h0, if_neg e4, if_neg e5]
      rw [e]
      exact ha
  · unfold CyRes.more at hx
    split at hx
    · rename_i his
      rcases List.mem_append.1 hx with hx | hx
      · exact h.sub x hx
      · obtain rfl : x = (k.stepR room).r := by simpa using hx
        by_cases h0 : k.s.M.K.ph = 0
        · rw [step_rest room h0 h.f.as'] at his; cases his
        by_cases e4 : k.s.M.K.ph = 4
        · have ha := h.a (by omega) (by omega)
          have hl : (k.s.lostAt k.C.at').2 = true ∧ (k.stepR room).r = (k.s.lostAt k.C.at').1 := by
            unfold Col.stepR at his ⊢
            rw [if_neg h0, if_pos e4] at his ⊢
            by_cases hl : (k.s.lostAt k.C.at').2 = true
            · rw [if_pos hl] at his ⊢
              by_cases hr : room = true
              · rw [if_pos hr]; exact ⟨hl, rfl⟩
              · rw [if_neg hr] at his; cases his
            · rw [if_neg hl] at his; cases his
          rw [hl.2, ← ha]
          exact lostAt_handle hok e4 hl.1
        · exfalso
          unfold Col.stepR at his
          rw [if_neg h0, if_neg e4] at his
          split at his <;> cases his
    · exact h.sub x hx
theorem Fw.ack (h : Fw d k F) (hok : k.Ok) (i : Int) : Fw d ⟨⟨k.s.A, (k.s.M.ackR k.s.A i).M⟩, k.C⟩ F := by
  obtain ⟨_, a2, _⟩ := Sys.ack_next hok.s i
  refine ⟨h.f.ack hok i, fun h1 h4 => ?_, h.sub⟩
  dsimp only at h1 h4 ⊢
  rw [a2] at h1 h4
  exact h.a h1 h4
theorem Fw.acks (h : Fw d k F) (hok : k.Ok) : ∀ n, Fw d (k.acks n) F
  | 0 => h
  | n + 1 => (h.acks hok n).ack (Col.acks_ok hok n).1 n
theorem Fw.begin (h : d.Ok) (hc : d.Clean) (hp : d.s.M.K.ph = 0) : Fw d d.begin [] :=
  ⟨Ff.begin h hc hp, fun _ _ => rfl, fun x hx => absurd hx List.not_mem_nil⟩
theorem Fw.eq (h : Fw d k F) (hd : d.Ok) (hp : k.s.M.K.ph = 0) : F = d.s.A.handles := by
  have h1 := h.f.off hp
  obtain ⟨b1, b2⟩ := handles_by d.s.A
  have hsub : ∀ x ∈ d.s.A.handles, x ∈ F := fun x hx => by
    obtain ⟨i, rfl, h2, h3⟩ := handles_mem hd.safe.nd hx
    exact h1.all i h2 h3
  have hord : F.Pairwise (fun x y => x.s < y.s) := h1.ord
  have hnd : F.Nodup := List.Pairwise.imp (fun {a b : Rf} (hab : a.s < b.s) e => by rw [e] at hab; omega) hord
  have hby : BySlot F := List.Pairwise.imp (fun {a b : Rf} (hab : a.s < b.s) => Int.le_of_lt hab) hord
  have hone : OneSlot d.s.A.handles := oneSlot_there fun r hr => ((lost_iff hd.safe.nd).1 (List.mem_filter.1 hr).1).1
  exact (srt_unique ((List.perm_ext_iff_of_nodup hnd b2).2 fun r => ⟨h.sub r, hsub r⟩) hby hone).trans (srt_unique (List.Perm.refl _) b1 hone).symm
/-! rounds without room -/
def Col.round0 (c : Col) : Col := ((c.acks c.s.M.K.many).stepR false).c
def Col.stuck (c : Col) : Prop := c.s.M.K.ph = 4 ∧ (c.s.lostAt c.C.at').2 = true
theorem more_no (f : List Rf) (k : Col) : (k.stepR false).more f = f := by
  unfold CyRes.more
  rw [if_neg]
  unfold Col.stepR
  split
  · exact Bool.false_ne_true
  split
  · split
    · rw [if_neg Bool.false_ne_true]; exact Bool.false_ne_true
    · exact Bool.false_ne_true
  split <;> exact Bool.false_ne_true
theorem acks_still (hp : ¬ (k.s.M.K.ph = 1 ∨ k.s.M.K.ph = 2)) (n : Nat) : k.acks n = k := by
  induction n with
  | zero => rfl
  | succ n ih =>
    have e : (k.acks n).s.acks 1 = (k.acks n).s := acks_idle (by rw [ih]; exact hp) 1
    show (⟨⟨(k.acks n).s.A, ((k.acks n).s.M.ackR (k.acks n).s.A n).M⟩, (k.acks n).C⟩ : Col) = k
    have e2 : ((k.acks n).s.M.ackR (k.acks n).s.A n).M = (k.acks n).s.M := by
      rw [ih]
      unfold Mk.ackR
      split
      · rfl
      · first
        | rfl
        | rw [if_pos hp]
    rw [e2, ih]
theorem Col.stuck_stay (h : k.stuck) : k.round0 = k := by
  obtain ⟨h1, h2⟩ := h
  unfold Col.round0
  rw [acks_still (by omega)]
  unfold Col.stepR
  rw [if_neg (by omega), if_pos h1, if_pos h2, if_neg Bool.false_ne_true]
theorem Col.idle_stay (hp : k.s.M.K.ph = 0) (ha : k.C.asked = false) : k.round0 = k := by
  unfold Col.round0
  rw [acks_still (by omega), Go.Proofs.YtehmoikbeflkaaaGreat.step_rest false hp ha]
theorem Col.go_on (hok : k.Ok) (h : ¬ k.stuck) : k.round0 = k.round.c := by
  unfold Col.round0 Col.round
  by_cases h4 : k.s.M.K.ph = 4
  · have hl : ¬ (k.s.lostAt k.C.at').2 = true := fun hx => h ⟨h4, hx⟩
    rw [acks_still (by omega)]
    have h0 : ¬ k.s.M.K.ph = 0 := by omega
    unfold Col.stepR
    simp only [if_neg h0, if_pos h4, if_neg hl]
  · have e : (k.acks k.s.M.K.many).s.M.K.ph ≠ 4 := by
      have a3 : (k.acks k.s.M.K.many).s.M.K.ph = k.s.M.K.ph := (Sys.acks_next hok.s k.s.M.K.many).2.2.1
      rw [a3]; exact h4
    unfold Col.stepR
    simp only [if_neg e]
structure Wr (d : Col) (t : Nat) (k : Col) : Prop where
  ok : k.Ok
  like : d.Like k
  w : Fw d k []
  m : k.s.M.K.ph ≠ 0 → ¬ k.stuck → k.mu + t ≤ 3 * d.s.M.P.n + 3
theorem Wr.begin (h : d.Ok) (hc : d.Clean) (hp : d.s.M.K.ph = 0) : Wr d 0 d.begin := by
  obtain ⟨b1, b2, b3⟩ := Col.begin_ok h hp
  exact ⟨b1, b2, Fw.begin h hc hp, fun _ _ => by rw [Col.mu_begin h hp]; omega⟩
theorem Wr.next {t : Nat} (h : Wr d t k) : Wr d (t + 1) k.round0 := by
  obtain ⟨o1, o2⟩ := Col.acks_ok h.ok k.s.M.K.many
  obtain ⟨o3, o4⟩ := Col.step_ok o1 false
  have hw : Fw d k.round0 [] := by
    have := (h.w.acks h.ok k.s.M.K.many).step o1 false
    rwa [more_no] at this
  refine ⟨o3, h.like.trans (o2.trans o4), hw, fun hp hs => ?_⟩
  by_cases h0 : k.s.M.K.ph = 0
  · rw [Col.idle_stay h0 h.w.f.as'] at hp; exact absurd h0 hp
  by_cases hst : k.stuck
  · rw [Col.stuck_stay hst] at hs; exact absurd hst hs
  · have h1 := h.m h0 hst
    have h2 := (Col.round_mu h.ok h0).1
    rw [Col.go_on h.ok hst] at hp ⊢
    omega
theorem Wr.done {t : Nat} (h : Wr d t k) (hd : d.Ok) (ht : 3 * d.s.M.P.n + 3 < t) : (d.s.A.handles = [] → k.s.M.K.ph = 0) ∧ (d.s.A.handles ≠ [] → k.s.M.K.ph = 4 ∧ k.s.A = d.s.A) := by
  by_cases h0 : k.s.M.K.ph = 0
  · have := h.w.eq hd h0
    exact ⟨fun _ => h0, fun hx => absurd this.symm hx⟩
  by_cases hst : k.stuck
  · have ha := h.w.a (by have := hst.1; omega) (by have := hst.1; omega)
    have hm := lostAt_handle h.ok hst.1 hst.2
    rw [ha] at hm
    exact ⟨fun hx => (by rw [hx] at hm; cases hm), fun _ => ⟨hst.1, ha⟩⟩
  · have := h.m h0 hst
    omega
end Go.Proofs.YtehmoikbeflkaaaGreat
