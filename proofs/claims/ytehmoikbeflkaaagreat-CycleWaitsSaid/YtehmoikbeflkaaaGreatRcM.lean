/- estraylaw19: moves; the arena that is played. -/
import Derived.Test.YtehmoikbeflkaaaGreatRcH
import Derived.Test.YtehmoikbeflkaaaGreatCyA
namespace Go.Proofs.YtehmoikbeflkaaaGreat
open Go.RowKit
set_option linter.unusedVariables false
set_option linter.unusedSimpArgs false
variable {N : Nat} {w0 w w' : World} {a : Nat} {L : ArL} {s : Sys}

theorem Ay.footlt {A : Ar} (h : Ay N w0 w a L A) (y : Nat) (hy : L.foot A.many y) : y < w.heap.size := by
  rcases hy with rfl | rfl | rfl | ⟨k, hk, rfl⟩
  · obtain ⟨c', hc, _⟩ := h.ar.heap.own; exact lt_block hc
  · obtain ⟨c', hc, _⟩ := h.ar.heap.tab; exact lt_block hc
  · obtain ⟨c', hc, _⟩ := h.ar.gl; exact lt_block hc
  · obtain ⟨c', hc, _⟩ := h.ar.st k hk; exact lt_block hc
def Mv.mo19 (x : Mv) (s : Sys) : Mo :=
  match x.kind % 8 with
  | 0 => .make (x.m % 2) (1 + (x.b % 4 : Nat)) false
  | 1 => .make (x.m % 2) (1 + (x.b % 4 : Nat)) false
  | 2 => .load (x.m % 2) (x.a % max (s.A.rt (x.m % 2)).n 1 : Nat) (x.b % 4 : Nat)
  | 3 => .store (x.m % 2) (x.a % max (s.A.rt (x.m % 2)).n 1 : Nat) (x.b % 4 : Nat) ((x.c % ((s.A.rt (x.m % 2)).n + 1) : Nat) - 1)
  | 4 => .store (x.m % 2) (x.a % max (s.A.rt (x.m % 2)).n 1 : Nat) (x.b % 4 : Nat) ((x.c % ((s.A.rt (x.m % 2)).n + 1) : Nat) - 1)
  | 5 => .drop (x.m % 2) (x.a % max (s.A.rt (x.m % 2)).n 1 : Nat)
  | 6 => .put (x.m % 2) (x.a % max (s.A.rt (x.m % 2)).n 1 : Nat) (x.b % 8 : Nat)
  | _ => .get (x.m % 2) (x.b % 8 : Nat)
theorem Mv.who19 (x : Mv) (s : Sys) : (x.mo19 s).who = x.m % 2 := by unfold Mv.mo19; split <;> rfl
structure Good19 (s : Sys) : Prop where
  ok : s.Ok
  safe : Safe s
  many : s.A.many = 2
theorem Good19.next {s : Sys} (h : Good19 s) (x : Mv) : Good19 ((x.mo19 s).doR s) := by
  have hw : (x.mo19 s).who < s.A.many := by rw [x.who19, h.many]; exact Nat.mod_lt _ (by omega)
  exact ⟨((x.mo19 s).next h.ok).ok, (x.mo19 s).safe h.ok h.safe hw, ((x.mo19 s).many h.ok).trans h.many⟩
end Go.Proofs.YtehmoikbeflkaaaGreat

/- Plain laws of reach: what the lists of names are; what is lost stays lost; what is freed. -/
namespace Go.Proofs.YtehmoikbeflkaaaGreat
set_option linter.unusedVariables false
set_option linter.unusedSimpArgs false

def Nd (A : Ar) : Prop := ∀ r, Rch A r → There A.H r
theorem in_glL {A : Ar} {i : Nat} (h : i < 8) (hz : (A.gl i).nz = true) : A.gl i ∈ A.glL :=
  List.mem_filter.2 ⟨List.mem_map.2 ⟨i, List.mem_range.2 h, rfl⟩, hz⟩
theorem in_stks {A : Ar} {k m i : Nat} (hm : m < k) (hi : i < (A.rt m).n) : (A.rt m).f i ∈ A.stks k :=
  List.mem_flatMap.2 ⟨m, List.mem_range.2 hm, List.mem_map.2 ⟨i, List.mem_range.2 hi, rfl⟩⟩
theorem orig_rch {A : Ar} {r : Rf} (h : r ∈ A.glL ++ A.stks A.many) : Rch A r := by
  rcases List.mem_append.1 h with h | h
  · obtain ⟨i, hi, rfl, hz⟩ := glL_mem h
    exact .var hi hz
  · obtain ⟨m, i, hm, hi, rfl⟩ := stks_mem h
    exact .root hm hi
theorem rq_iff {A : Ar} (nd : Nd A) {r : Rf} : r ∈ A.rq.keys ↔ Rch A r := by
  unfold Ar.rq
  rw [explQ_mem orig_there]
  constructor
  · intro h
    induction h with
    | base h => exact orig_rch (mem_hres.1 h).1
    | step _ h ih => exact .field ih (mem_kids.1 h).1 (mem_kids.1 h).2.1
  · intro h
    induction h with
    | @root m i h1 h2 => exact .base (mem_hres.2 ⟨List.mem_append_right _ (in_stks h1 h2), nd _ (.root h1 h2)⟩)
    | @var i h1 h2 => exact .base (mem_hres.2 ⟨List.mem_append_left _ (in_glL h1 h2), nd _ (.var h1 h2)⟩)
    | @field r q h1 h2 h3 ih => exact .step ih (mem_kids.2 ⟨h2, h3, nd _ (.field h1 h2 h3)⟩)
theorem tk_iff {T : Tb} {H : Hp} (e : H.T = T) {r : Rf} : r ∈ T.tk ↔ There H r := by
  subst e
  constructor
  · intro h
    obtain ⟨i, h1, h2, h3, h4⟩ := tk_of h
    exact There.of (by omega) (by omega) (by rw [h1, Int.toNat_natCast]; exact h3) (by rw [h1, Int.toNat_natCast]; exact h4)
  · intro h
    obtain ⟨h0, h1, h2, h3, h4⟩ := h.lt
    have := tk_mem h2 h3
    have e : (⟨(r.s.toNat : Nat), H.T.gn r.s.toNat⟩ : Rf) = r := by
      obtain ⟨s, g⟩ := r
      dsimp only at h0 h4 ⊢
      rw [h4, Int.toNat_of_nonneg h0]
    rwa [e] at this
theorem lost_iff {A : Ar} (nd : Nd A) {r : Rf} : r ∈ A.lostL ↔ There A.H r ∧ ¬ Rch A r := by
  unfold Ar.lostL
  rw [List.mem_filter, tk_iff rfl, Bool.not_eq_true', decide_eq_false_iff_not, rq_iff nd]
/-! what mutators do -/
theorem Good19.nd {s : Sys} (h : Good19 s) : Nd s.A := h.safe.nd
/-! freeing -/
theorem tk_nd (T : Tb) : T.tk.Nodup := by
  unfold Tb.tk
  generalize T.n = n
  induction n with
  | zero => simp [Tb.inn]
  | succ n ih =>
    by_cases h : T.st n = 1
    · rw [Tb.inn_yes h, List.map_append]
      refine List.nodup_append.2 ⟨ih, by simp, fun x hx y hy => ?_⟩
      obtain ⟨⟨i, g⟩, hi, rfl⟩ := List.mem_map.1 hx
      have hlt := (Tb.inn_mem hi).2.2
      obtain rfl : y = rfOf (n, T.gn n) := by simpa using hy
      intro e
      have : ((i : Nat) : Int) = (n : Nat) := congrArg Rf.s e
      omega
    · rw [Tb.inn_no h]; exact ih
theorem lost_len (A : Ar) : A.lostL.length ≤ A.H.T.n := Nat.le_trans (List.length_filter_le _ _) (tk_len _)
end Go.Proofs.YtehmoikbeflkaaaGreat

namespace Go.Proofs.YtehmoikbeflkaaaGreat
open Go.RowKit Go.ChangeShapes Go.WideShapes Go.ChangeAt Go.Deep
theorem Refs.cellk {w : World} {p : Option Addr} {n c : Nat} {l : List Rf} (h : Refs w (.slice p n c) l) {k : Nat} {r : Rf} (hk : l[k]? = some r) :
    ∃ g, p = some ⟨g, 0, none⟩ ∧ w.cell? ⟨g, k * 2, none⟩ = some (.int .i64 r.s) ∧ w.cell? ⟨g, k * 2 + 1, none⟩ = some (.int .u32 r.g) := by
  rcases h with ⟨h1, rfl⟩ | ⟨g, cap, cur, h1, h2, h3⟩
  · simp at hk
  · injection h1 with h1 h4 h5
    obtain ⟨a1, a2⟩ := h3 k r hk
    exact ⟨g, h1, cell_at h2 a1, cell_at h2 a2⟩
end Go.Proofs.YtehmoikbeflkaaaGreat
