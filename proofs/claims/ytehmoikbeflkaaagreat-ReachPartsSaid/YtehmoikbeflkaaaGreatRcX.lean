/- Plain laws of what can be reached from lists (for ReachParts). -/
import Derived.Test.YtehmoikbeflkaaaGreatRcQ
namespace Go.Proofs.YtehmoikbeflkaaaGreat
set_option linter.unusedVariables false
set_option linter.unusedSimpArgs false

theorem rchl_app {H : Hp} {l m : List Rf} {r : Rf} : RchL H (l ++ m) r ↔ RchL H l r ∨ RchL H m r := by
  constructor
  · intro h
    induction h with
    | base h => exact (List.mem_append.1 h).imp .base .base
    | step _ h ih => exact ih.imp (fun k => .step k h) (fun k => .step k h)
  · rintro (h | h)
    · induction h with
      | base h => exact .base (List.mem_append_left _ h)
      | step _ h ih => exact .step ih h
    · induction h with
      | base h => exact .base (List.mem_append_right _ h)
      | step _ h ih => exact .step ih h
theorem fromL_mem {H : Hp} {l : List Rf} (hl : ∀ r ∈ l.filter (·.nz), There H r) (h0 : thrE H l = 0) {r : Rf} : r ∈ fromL H l ↔ RchL H (l.filter (·.nz)) r := by
  unfold fromL
  rw [if_pos h0, mem_srt, explQ_mem hl]
theorem rchl_idem {H : Hp} {l m : List Rf} (hm : ∀ r, r ∈ m ↔ RchL H l r) {r : Rf} : RchL H m r ↔ RchL H l r := by
  constructor
  · intro h
    induction h with
    | base h => exact (hm _).1 h
    | step _ h ih => exact .step ih h
  · intro h
    exact .base ((hm r).2 h)
theorem fromL_there {H : Hp} {l : List Rf} (hl : ∀ r ∈ l.filter (·.nz), There H r) (h0 : thrE H l = 0) : ∀ r ∈ fromL H l, There H r := fun r hr =>
  ((fromL_mem hl h0).1 hr).there hl
theorem from_idem {H : Hp} {l : List Rf} (hz : ∀ r, There H r → r.nz = true) (hl : ∀ r ∈ l.filter (·.nz), There H r) (h0 : thrE H l = 0) : thrE H (fromL H l) = 0 ∧ fromL H (fromL H l) = fromL H l := by
  have ht := fromL_there hl h0
  have h1 : thrE H (fromL H l) = 0 := thrE_of fun r hr _ => ht r hr
  have hf : (fromL H l).filter (·.nz) = fromL H l := List.filter_eq_self.2 fun r hr => hz r (ht r hr)
  refine ⟨h1, ?_⟩
  have e1 : fromL H (fromL H l) = srt (explQ H (fromL H l)).keys := by
    show (if thrE H (fromL H l) = 0 then srt (explQ H ((fromL H l).filter (·.nz))).keys else []) = _
    rw [if_pos h1, hf]
  have e2 : fromL H l = srt (explQ H (l.filter (·.nz))).keys := by unfold fromL; rw [if_pos h0]
  have hp : (explQ H (fromL H l)).keys.Perm (explQ H (l.filter (·.nz))).keys := (List.perm_ext_iff_of_nodup (exp_all H _ H.T.n).nd (exp_all H _ H.T.n).nd).2 fun q => by
    exact (explQ_mem ht).trans ((rchl_idem fun r => fromL_mem hl h0).trans (explQ_mem hl).symm)
  rw [e1]
  conv => rhs; rw [e2]
  refine srt_unique ((srt_perm _).trans hp) (srt_sorted _) (oneSlot_there fun r hr => ((explQ_mem hl).1 hr).there hl)
theorem closed_iff {H : Hp} {l : List Rf} (hz : ∀ r, There H r → r.nz = true) (ht : ∀ r ∈ l, There H r) : closB H (l.filter (·.nz)) = (fromL H l).all (fun r => decide (r ∈ l)) := by
  have hf : l.filter (·.nz) = l := List.filter_eq_self.2 fun r hr => hz r (ht r hr)
  have h0 : thrE H l = 0 := thrE_of fun r hr _ => ht r hr
  have hm : ∀ r, r ∈ fromL H l ↔ RchL H l r := fun r => by
    have := fromL_mem (H := H) (l := l) (by rw [hf]; exact ht) h0 (r := r)
    rwa [hf] at this
  rw [hf]
  refine Bool.eq_iff_iff.2 ⟨fun h => ?_, fun h => ?_⟩
  · unfold closB at h
    rw [List.all_eq_true] at h ⊢
    intro r hr
    refine decide_eq_true ?_
    have hr := (hm r).1 hr
    induction hr with
    | base h1 => exact h1
    | @step x c h1 h2 ih =>
      have := h x (ih ((hm x).2 h1))
      rw [List.all_eq_true] at this
      exact of_decide_eq_true (this c h2)
  · unfold closB
    rw [List.all_eq_true] at h ⊢
    intro r hr
    rw [List.all_eq_true]
    intro c hc
    exact h c ((hm c).2 (.step (.base hr) hc))
end Go.Proofs.YtehmoikbeflkaaaGreat

/- Rows of bytes. -/
namespace Go.Proofs.YtehmoikbeflkaaaGreat
open Go.RowKit Go.ChangeShapes Go.WideShapes Go.ChangeAt Go.Deep
theorem kept_block {w w' : World} {b : Nat} {o : Obj} (hk : Keeps (fun _ => False) w w') (h : w.heap[b]? = some o) : w'.heap[b]? = some o := block_keep h hk (fun h => h)
theorem refs_two {w : World} {b : Nat} {x : Rf} (h : w.heap[b]? = some (.cells #[.int .i64 0, .int .u32 0, .int .i64 x.s, .int .u32 x.g] 33)) : Refs w (.slice (some ⟨b, 0, none⟩) 2 2) [⟨0, 0⟩, x] :=
  .inr ⟨b, 2, _, rfl, h, fun j r hj => by
    match j, hj with
    | 0, hj => obtain rfl := Option.some.inj hj; exact ⟨rfl, rfl⟩
    | 1, hj => obtain rfl := Option.some.inj hj; exact ⟨rfl, rfl⟩⟩
def ByRow (w : World) (v : Value) (l : List Nat) : Prop := ∃ a cap, v = .slice a l.length cap ∧ l.length ≤ cap ∧ cap ≤ maxLen ∧ (l = [] ∨ ∃ b off, a = some ⟨b, off, none⟩ ∧ b < w.heap.size ∧ ∀ (i : Nat) (x : Nat), l[i]? = some x → x < 256 ∧ w.cell? ⟨b, off + i, none⟩ = some (.int .u8 x))
def ks1 : List Flat := [.int .u8]
theorem byrow_of {w : World} {a : Option Addr} {len cap : Nat} (h1 : len ≤ cap) (h2 : cap ≤ maxLen) (h : len = 0 ∨ ∃ b off, a = some ⟨b, off, none⟩ ∧ b < w.heap.size ∧ ∀ i, i < len → CellsAt w b (off + i * ks1.length) ks1) :
    ∃ l, ByRow w (.slice a len cap) l := by
  rcases h with rfl | ⟨b, off, rfl, hb, hx⟩
  · exact ⟨[], a, cap, rfl, h1, h2, .inl rfl⟩
  · have hc : ∀ i : Nat, ∃ x : Nat, i < len → x < 256 ∧ w.cell? ⟨b, off + i, none⟩ = some (.int .u8 x) := fun i => by
      by_cases hi : i < len
      · obtain ⟨_, h0, k0⟩ := hx i hi 0 _ rfl
        obtain ⟨a0, rfl, l0⟩ := byte_of k0
        exact ⟨a0, fun _ => ⟨l0, by simpa [ks1] using h0⟩⟩
      · exact ⟨0, fun h => absurd h hi⟩
    obtain ⟨f, hf⟩ := Classical.axiomOfChoice hc
    refine ⟨(List.range len).map f, _, cap, by simp, by simpa using h1, h2, .inr ⟨b, off, rfl, hb, fun i x hi => ?_⟩⟩
    rw [List.getElem?_map] at hi
    by_cases hl : i < len
    · rw [List.getElem?_range hl] at hi
      simp only [Option.map_some, Option.some.injEq] at hi
      subst hi
      exact hf i hl
    · rw [List.getElem?_eq_none (by simpa using hl)] at hi
      cases hi
end Go.Proofs.YtehmoikbeflkaaaGreat
