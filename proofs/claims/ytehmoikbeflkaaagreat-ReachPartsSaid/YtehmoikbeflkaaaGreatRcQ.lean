/- estraylaw19: origins; what lists there are of any arena. -/
import Derived.Test.YtehmoikbeflkaaaGreatRcN
import Derived.Test.YtehmoikbeflkaaaGreatRcM
namespace Go.Proofs.YtehmoikbeflkaaaGreat
open Go.RowKit
set_option linter.unusedVariables false
set_option linter.unusedSimpArgs false

/-! plain -/
theorem filter_both {α : Type} (p : α → Bool) : ∀ l : List α, (l.filter p).length + (l.filter (fun x => !p x)).length = l.length
  | [] => rfl
  | x :: l => by
    have := filter_both p l
    by_cases h : p x = true
    · simp [List.filter_cons, h]; omega
    · simp [List.filter_cons, h]; omega
theorem all_lost_len (A : Ar) : (srt A.rq.keys).length + A.lostL.length = A.H.T.tk.length := by
  rw [(srt_perm _).length_eq]
  have hp : (A.H.T.tk.filter (fun r => decide (r ∈ A.rq.keys))).Perm A.rq.keys := (List.perm_ext_iff_of_nodup ((tk_nd _).filter _) (rq_nd A)).2 fun q => by
    rw [List.mem_filter, decide_eq_true_eq]
    exact ⟨fun h => h.2, fun h => ⟨(tk_iff rfl).2 (rq_there h), h⟩⟩
  rw [← hp.length_eq]
  exact filter_both _ _
theorem has_all {A : Ar} {r : Rf} (h : r ∈ A.glL ++ A.stks A.many) : (ckV A.H.T r.s r.g == 0) = decide (r ∈ srt A.rq.keys) := by
  by_cases ht : There A.H r
  · rw [show ckV A.H.T r.s r.g = 0 from ht]
    have : r ∈ A.rq.keys := (explQ_mem orig_there).2 (.base (mem_hres.2 ⟨h, ht⟩))
    rw [decide_eq_true (mem_srt.2 this)]
    rfl
  · have h1 : ckV A.H.T r.s r.g ≠ 0 := ht
    rw [decide_eq_false (fun hm => ht (rq_there (mem_srt.1 hm)))]
    simpa using h1
theorem free_stale {A : Ar} {r : Rf} (h : There A.H r) : ckV (A.freeR r).1.H.T r.s r.g = 7 := by
  have h1 : ckV (A.freeR r).1.H.T r.s r.g ≠ 0 := fun e => ((free_there h).1 e).2 rfl
  obtain ⟨h2, h3, _⟩ := h.lt
  have hn := (Ar.freeR_n A r).1
  unfold ckV at h1 ⊢
  rw [if_neg (by rw [hn]; omega)] at h1 ⊢
  split at h1
  · exact absurd rfl h1
  · rename_i hc; rw [if_neg hc]
theorem far_ck {T : Tb} (hn : T.n = 40) {s g : Int} (h : s < 0 ∨ 40 ≤ s) : ckV T s g = 3 := by
  unfold ckV
  rw [if_pos (by rw [hn]; omega)]
theorem thr_one {H : Hp} {r : Rf} (hz : r.nz = true) : thrE H [r] = ckV H.T r.s r.g := by
  by_cases h : ckV H.T r.s r.g = 0 <;> simp [thrE, hz, h]
theorem thr_two {H : Hp} {r : Rf} (hz : r.nz = true) : thrE H [⟨0, 0⟩, r] = ckV H.T r.s r.g := by
  have z : (⟨0, 0⟩ : Rf).nz = false := rfl
  show (if (⟨0, 0⟩ : Rf).nz = false then thrE H [r] else _) = _
  rw [if_pos z]
  exact thr_one hz
theorem mo19_n (x : Mo) (s : Sys) : (x.doR s).A.H.T.n = s.A.H.T.n := by
  cases x with
  | make k n hd => exact (s.A.makeR_n k n hd).1
  | load k i f => exact (s.A.loadR_n k i f).1
  | store k i f j => exact (s.A.storeR_n k i f j).1
  | drop k i => exact (s.A.dropR_n k i).1
  | put k i g => exact (s.A.putR_n k i g).1
  | get k g => exact (s.A.getR_n k g).1
theorem moved_n (l : List Mv) (s : Sys) : (moved s l).A.H.T.n = s.A.H.T.n := by
  induction l generalizing s with
  | nil => rfl
  | cons x l ih => exact (ih _).trans (mo19_n _ _)
theorem pl19_n (l : List Mv) : (Sys.pl19 l).A.H.T.n = 40 := moved_n _ _
end Go.Proofs.YtehmoikbeflkaaaGreat
