/- Plain laws of ways: depths. -/
import Derived.Test.YtcpljmonmchloaaGreatRcQ
namespace Go.Proofs.YtcpljmonmchloaaGreat
set_option linter.unusedVariables false
set_option linter.unusedSimpArgs false

def Ar.dep (A : Ar) (r : Rf) : Nat := (A.wayL r).length - 1
theorem way_u {A : Ar} {r : Rf} (hr : r ∈ A.rq.keys) : ∃ u, Wy A.rq r u ∧ A.wayL r = u.reverse := by
  obtain ⟨u, hu⟩ := Wy.of_key (rq_exp A) hr
  exact ⟨u, hu, wayQ_of (rq_exp A) hr hu⟩
theorem dep_dp {A : Ar} {r : Rf} (hr : r ∈ A.rq.keys) : Dp A.rq r (A.dep r) ∧ (A.wayL r).length = A.dep r + 1 := by
  obtain ⟨u, hu, he⟩ := way_u hr
  have h0 : u.length ≠ 0 := fun h => hu.ne (List.length_eq_zero_iff.1 h)
  have hl : (A.wayL r).length = u.length := by rw [he, List.length_reverse]
  unfold Ar.dep
  rw [hl]
  exact ⟨⟨u, hu, by omega⟩, by omega⟩
theorem dep_of {A : Ar} {r : Rf} (hr : r ∈ A.rq.keys) {d : Nat} (h : Dp A.rq r d) : A.dep r = d := (dep_dp hr).1.unique (rq_nd A) h
theorem dep_zero {A : Ar} {r : Rf} (hr : r ∈ A.rq.keys) : A.dep r = 0 ↔ r ∈ A.glL ++ A.stks A.many := by
  have h := explQ_zero (H := A.H) (l := A.orig) (dep_dp hr).1
  rw [h]
  exact ⟨fun h => (mem_hres.1 h).1, fun h => mem_hres.2 ⟨h, rq_there hr⟩⟩
theorem key_kid {A : Ar} {r c : Rf} (hr : r ∈ A.rq.keys) (hc : c ∈ kids A.H r) : c ∈ A.rq.keys :=
  (explQ_mem orig_there).2 (.step ((explQ_mem orig_there).1 hr) hc)
theorem dep_kid {A : Ar} {r c : Rf} (hr : r ∈ A.rq.keys) (hc : c ∈ kids A.H r) : A.dep c ≤ A.dep r + 1 := by
  obtain ⟨d, h1, h2⟩ := explQ_kid orig_there (dep_dp hr).1 hr hc
  rw [dep_of (key_kid hr hc) h2]
  exact h1
theorem dep_way {A : Ar} {r : Rf} (hr : r ∈ A.rq.keys) {k : Nat} {o : Rf} (h : (A.wayL r)[k]? = some o) : o ∈ A.rq.keys ∧ A.dep o = k := by
  obtain ⟨u, hu, he⟩ := way_u hr
  rw [he] at h
  have hk : k < u.length := by have := (List.getElem?_eq_some_iff.1 h).1; rwa [List.length_reverse] at this
  rw [List.getElem?_reverse hk] at h
  have hm : o ∈ A.rq.keys := hu.len (rq_nd A) o (List.mem_of_getElem? h)
  refine ⟨hm, dep_of hm ⟨_, hu.drop _ _ h, ?_⟩⟩
  rw [List.length_drop]
  omega
theorem dep_lt (A : Ar) (r : Rf) : A.dep r ≤ A.H.T.n := by have := wayQ_len (A := A) (r := r); unfold Ar.dep; omega
theorem field_kid {A : Ar} (nd : Nd A) {r c : Rf} (hr : r ∈ A.rq.keys) (hc : c ∈ ((A.H.ob r.s.toNat).upto 4).map (·.2)) : c ∈ kids A.H r := by
  obtain ⟨⟨k, q⟩, hq, rfl⟩ := List.mem_map.1 hc
  obtain ⟨e1, e2, e3⟩ := Ob.upto_mem hq
  have ht := rq_there hr
  obtain ⟨_, _, t3, t4, _⟩ := ht.lt
  have he : Edge A.H r.s.toNat q := ⟨t3, t4, e2, k, e3, e1⟩
  exact mem_kids.2 ⟨ht, he, nd _ (.field ((rq_iff nd).1 hr) ht he)⟩
def depM (A : Ar) (l : List Rf) : List (Rf × Go.Value) := l.map fun r => (r, .int .i64 (A.dep r))
theorem depM_snoc (A : Ar) (l : List Rf) (r : Rf) : depM A (l ++ [r]) = depM A l ++ [(r, .int .i64 (A.dep r))] := by simp [depM]
end Go.Proofs.YtcpljmonmchloaaGreat
