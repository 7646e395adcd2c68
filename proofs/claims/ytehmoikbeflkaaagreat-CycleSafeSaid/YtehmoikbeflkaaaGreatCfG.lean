/- Plain laws of CycleSafe: what was found stays out of reach; a step frees nothing that can be reached. -/
import Derived.Test.YtehmoikbeflkaaaGreatCyM
import Derived.Test.YtehmoikbeflkaaaGreatRcM
namespace Go.Proofs.YtehmoikbeflkaaaGreat
open Go.RowKit
set_option linter.unusedVariables false
set_option linter.unusedSimpArgs false

def Dead (A : Ar) (r : Rf) : Prop := ∃ (i : Nat) (g : Int), r = ⟨i, g⟩ ∧ (Gone A.H i g ∨ (There A.H r ∧ ¬ Rch A r))
theorem Dead.not_rch {A : Ar} {r : Rf} (h : Dead A r) (nd : Nd A) : ¬ Rch A r := by
  intro hr
  obtain ⟨i, g, rfl, h | ⟨_, h⟩⟩ := h
  · exact h.not_there (nd _ hr)
  · exact h hr
structure Cut (A B : Ar) : Prop where
  rc : ∀ q, Rch B q ↔ Rch A q
  dead : ∀ r, Dead A r → Dead B r
theorem Cut.refl (A : Ar) : Cut A A := ⟨fun _ => Iff.rfl, fun _ h => h⟩
theorem Cut.trans {A B C : Ar} (h : Cut A B) (k : Cut B C) : Cut A C := ⟨fun q => (k.rc q).trans (h.rc q), fun r hr => k.dead r (h.dead r hr)⟩
theorem Sw.step_cut {S : Sw} {s : Sys} (hok : s.Ok) (hs : Safe s) (hp : 4 ≤ s.M.K.ph) (hn : S.next < s.M.P.n) : Cut s.A (S.stepR s).s.A := by
  have hgo := fun {j : Nat} {g : Int} (h : Gone s.A.H j g) => Sw.step_gone (S := S) hok hn h
  unfold Sw.stepR at hgo ⊢
  split
  · exact Cut.refl _
  · rename_i hc
    rw [if_neg hc] at hgo
    have h0 : s.M.P.c S.next = 0 := Decidable.not_not.1 (fun hx => hc (.inl hx))
    have h1 : s.A.H.T.st S.next = 1 := Decidable.not_not.1 (fun hx => hc (.inr hx))
    have hin : S.next < s.A.H.T.n := by rw [hok.n]; exact hn
    have ht : There s.A.H ⟨S.next, s.A.H.T.gn S.next⟩ := There.of (by simp) (by simpa using hin) (by simpa using h1) (by simp)
    have hr : ¬ Rch s.A ⟨S.next, s.A.H.T.gn S.next⟩ := fun hr => hs.p5 hp _ hr (by simpa using h0)
    refine ⟨fun q => free_rch hs.nd ht hr, fun r hd => ?_⟩
    obtain ⟨i, g, rfl, h | ⟨t1, t2⟩⟩ := hd
    · exact ⟨i, g, rfl, .inl (hgo h)⟩
    · by_cases e : (⟨i, g⟩ : Rf) = ⟨S.next, s.A.H.T.gn S.next⟩
      · injection e with e1 e2
        have e3 : i = S.next := Int.ofNat.inj e1
        subst e3; subst e2
        exact ⟨_, _, rfl, .inl (free_tb hin h1).2⟩
      · exact ⟨i, g, rfl, .inr ⟨(free_there ht).2 ⟨t1, e⟩, fun hx => t2 ((free_rch hs.nd ht hr).1 hx)⟩⟩
variable {k : Col} {F : List Rf}
theorem Col.step_cut (h : k.Ok) (room : Bool) : Cut k.s.A (k.stepR room).c.s.A := by
  have hd : k.s.M.K.ph = 4 → Cut k.s.A k.discover.s.A := fun h4 => by rw [(Col.discover_ok h h4).2.2.2.2.1]; exact Cut.refl _
  unfold Col.stepR
  split
  · dsimp only; split
    · exact Cut.refl _
    · exact Cut.refl _
  split
  · rename_i h4
    split
    · split
      · exact hd h4
      · exact Cut.refl _
    · exact hd h4
  split
  · rename_i h5
    show Cut k.s.A k.sweep.s.A
    rw [(Col.sweep_ok h h5).2.2.2.2.1]
    exact Sw.step_cut h.s h.safe (by omega) (h.a5 h5)
  · exact Cut.refl _
theorem Col.step_is (room : Bool) (h : (k.stepR room).is = true) : k.s.M.K.ph = 4 ∧ (k.s.lostAt k.C.at').2 = true ∧ (k.stepR room).r = (k.s.lostAt k.C.at').1 := by
  unfold Col.stepR at h ⊢
  split at h
  · cases h
  rename_i h0
  rw [if_neg h0]
  split at h
  · rename_i h4
    rw [if_pos h4]
    split at h
    · rename_i hl
      rw [if_pos hl]
      split at h
      · rename_i hr
        rw [if_pos hr]
        exact ⟨h4, hl, rfl⟩
      · cases h
    · cases h
  · split at h <;> cases h
theorem lost_dead (hok : k.Ok) (hp : k.s.M.K.ph = 4) (h : (k.s.lostAt k.C.at').2 = true) : Dead k.s.A (k.s.lostAt k.C.at').1 ∧ (k.s.lostAt k.C.at').1.Wf := by
  unfold Sys.lostAt at h ⊢
  split
  · rename_i hx; rw [if_pos hx] at h; cases h
  · rename_i hx
    have c0 : k.s.M.P.c k.C.at' = 0 := Decidable.not_not.1 fun h => hx (.inl h)
    have s1 : k.s.A.H.T.st k.C.at' = 1 := Decidable.not_not.1 fun h => hx (.inr h)
    have hin : k.C.at' < k.s.A.H.T.n := by rw [hok.s.n]; exact hok.a4 hp
    have ht : There k.s.A.H ⟨k.C.at', k.s.A.H.T.gn k.C.at'⟩ := There.of (by simp) (by simpa using hin) (by simpa using s1) (by simp)
    exact ⟨⟨_, _, rfl, .inr ⟨ht, fun hr => hok.safe.p5 (by omega) _ hr (by simpa using c0)⟩⟩, there_wf hok.s.a ht⟩
def Fdd (k : Col) (F : List Rf) : Prop := ∀ r ∈ F, Dead k.s.A r ∧ r.Wf
theorem Fdd.step (h : Fdd k F) (hok : k.Ok) (room : Bool) : Fdd (k.stepR room).c ((k.stepR room).more F) := by
  have hc := Col.step_cut hok room
  intro r hr
  unfold CyRes.more at hr
  split at hr
  · rename_i hi
    obtain ⟨h4, hl, e⟩ := Col.step_is room hi
    rcases List.mem_append.1 hr with hr | hr
    · exact ⟨hc.dead r (h r hr).1, (h r hr).2⟩
    · rw [List.mem_singleton.1 hr, e]
      exact ⟨hc.dead _ (lost_dead hok h4 hl).1, (lost_dead hok h4 hl).2⟩
  · exact ⟨hc.dead r (h r hr).1, (h r hr).2⟩
theorem Fdd.mo (h : Fdd k F) (hok : k.Ok) (x : Mo) (hk : x.who < k.s.A.many) : Fdd ⟨x.doR k.s, k.C⟩ F := by
  obtain ⟨N, d⟩ := x.did hok.s hok.safe hk
  intro r hr
  refine ⟨?_, (h r hr).2⟩
  obtain ⟨i, g, rfl, h1 | ⟨h1, h2⟩⟩ := (h r hr).1
  · exact ⟨i, g, rfl, .inl (x.gone h1)⟩
  · refine ⟨i, g, rfl, .inr ⟨d.th _ h1, fun hx => ?_⟩⟩
    rcases d.rch _ hx with h3 | h3
    · exact h2 h3
    · exact (d.new _ h3).2 h1
theorem steps_safe (hok : k.Ok) (room : Bool) (h : Fdd k F) : ∀ i, Fdd (Col.steps room k F i).1 (Col.steps room k F i).2 ∧ Cut k.s.A (Col.steps room k F i).1.s.A
  | 0 => ⟨h, Cut.refl _⟩
  | i + 1 => ⟨(steps_safe hok room h i).1.step (Col.steps_ok hok room F i).1 room, (steps_safe hok room h i).2.trans (Col.step_cut (Col.steps_ok hok room F i).1 room)⟩
theorem Col.ask_A (k : Col) : k.askR.1.s.A = k.s.A := by
  unfold Col.askR; split <;> rfl
theorem Fdd.turn (h : Fdd k F) (hok : k.Ok) (x : Mv) : Fdd (x.turn26 k F).1 (x.turn26 k F).2 ∧ (9 < x.kind % 16 → Cut k.s.A (x.turn26 k F).1.s.A) := by
  unfold Mv.turn26
  split
  · rename_i h1
    exact ⟨h.mo hok _ (by rw [Mv.mo26_who, hok.s.k]; exact Nat.mod_lt _ hok.s.m.k1), fun h2 => by omega⟩
  split
  · exact ⟨h, fun _ => Cut.refl _⟩
  split
  · refine ⟨fun r hr => ?_, fun _ => ?_⟩
    · show Dead k.askR.1.s.A r ∧ r.Wf
      rw [Col.ask_A]; exact h r hr
    · show Cut k.s.A k.askR.1.s.A
      rw [Col.ask_A]; exact Cut.refl _
  · exact ⟨(steps_safe hok _ h _).1, fun _ => (steps_safe hok _ h _).2⟩
theorem Cut.keys {A B : Ar} (h : Cut A B) (na : Nd A) (nb : Nd B) : srt B.rq.keys = srt A.rq.keys := srt_keys na nb h.rc
theorem Fdd.no (h : Fdd k F) (hok : k.Ok) {r : Rf} (hr : r ∈ F) : r ∉ k.s.A.rq.keys := fun hx => (h r hr).1.not_rch hok.safe.nd ((rq_iff hok.safe.nd).1 hx)
end Go.Proofs.YtehmoikbeflkaaaGreat
