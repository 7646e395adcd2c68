/- estraylaw19: moves; the arena that is played. -/
import Derived.Test.YtehmoikbeflkaaaGreatRcH
import Derived.Test.YtehmoikbeflkaaaGreatCyA
namespace Go.Proofs.YtehmoikbeflkaaaGreat
open Go.RowKit
set_option linter.unusedVariables false
set_option linter.unusedSimpArgs false
variable {N : Nat} {w0 w w' : World} {a : Nat} {L : ArL} {s : Sys}

theorem Ay.footlt {A : Ar} (h : Ay N w0 w a L A) (y : Nat) (hy : L.foot A.many y) : y < w.heap.size := by
  rcases hy with rfl | rfl | rfl | ⟨k, hk, rfl⟩
  · obtain ⟨c', hc, _⟩ := h.ar.heap.own; exact lt_block hc
  · obtain ⟨c', hc, _⟩ := h.ar.heap.tab; exact lt_block hc
  · obtain ⟨c', hc, _⟩ := h.ar.gl; exact lt_block hc
  · obtain ⟨c', hc, _⟩ := h.ar.st k hk; exact lt_block hc
def Mv.mo19 (x : Mv) (s : Sys) : Mo :=
  match x.kind % 8 with
  | 0 => .make (x.m % 2) (1 + (x.b % 4 : Nat)) false
  | 1 => .make (x.m % 2) (1 + (x.b % 4 : Nat)) false
  | 2 => .load (x.m % 2) (x.a % max (s.A.rt (x.m % 2)).n 1 : Nat) (x.b % 4 : Nat)
  | 3 => .store (x.m % 2) (x.a % max (s.A.rt (x.m % 2)).n 1 : Nat) (x.b % 4 : Nat) ((x.c % ((s.A.rt (x.m % 2)).n + 1) : Nat) - 1)
  | 4 => .store (x.m % 2) (x.a % max (s.A.rt (x.m % 2)).n 1 : Nat) (x.b % 4 : Nat) ((x.c % ((s.A.rt (x.m % 2)).n + 1) : Nat) - 1)
  | 5 => .drop (x.m % 2) (x.a % max (s.A.rt (x.m % 2)).n 1 : Nat)
  | 6 => .put (x.m % 2) (x.a % max (s.A.rt (x.m % 2)).n 1 : Nat) (x.b % 8 : Nat)
  | _ => .get (x.m % 2) (x.b % 8 : Nat)
theorem Mv.who19 (x : Mv) (s : Sys) : (x.mo19 s).who = x.m % 2 := by unfold Mv.mo19; split <;> rfl
structure Good19 (s : Sys) : Prop where
  ok : s.Ok
  safe : Safe s
  many : s.A.many = 2
theorem Good19.next {s : Sys} (h : Good19 s) (x : Mv) : Good19 ((x.mo19 s).doR s) := by
  have hw : (x.mo19 s).who < s.A.many := by rw [x.who19, h.many]; exact Nat.mod_lt _ (by omega)
  exact ⟨((x.mo19 s).next h.ok).ok, (x.mo19 s).safe h.ok h.safe hw, ((x.mo19 s).many h.ok).trans h.many⟩
end Go.Proofs.YtehmoikbeflkaaaGreat

/- Plain laws of reach: what the lists of names are; what is lost stays lost; what is freed. -/
namespace Go.Proofs.YtehmoikbeflkaaaGreat
set_option linter.unusedVariables false
set_option linter.unusedSimpArgs false

def Nd (A : Ar) : Prop := ∀ r, Rch A r → There A.H r
theorem in_glL {A : Ar} {i : Nat} (h : i < 8) (hz : (A.gl i).nz = true) : A.gl i ∈ A.glL :=
  List.mem_filter.2 ⟨List.mem_map.2 ⟨i, List.mem_range.2 h, rfl⟩, hz⟩
theorem in_stks {A : Ar} {k m i : Nat} (hm : m < k) (hi : i < (A.rt m).n) : (A.rt m).f i ∈ A.stks k :=
  List.mem_flatMap.2 ⟨m, List.mem_range.2 hm, List.mem_map.2 ⟨i, List.mem_range.2 hi, rfl⟩⟩
theorem orig_rch {A : Ar} {r : Rf} (h : r ∈ A.glL ++ A.stks A.many) : Rch A r := by
  rcases List.mem_append.1 h with h | h
  · obtain ⟨i, hi, rfl, hz⟩ := glL_mem h
    exact .var hi hz
  · obtain ⟨m, i, hm, hi, rfl⟩ := stks_mem h
    exact .root hm hi
theorem rq_iff {A : Ar} (nd : Nd A) {r : Rf} : r ∈ A.rq.keys ↔ Rch A r := by
  unfold Ar.rq
  rw [explQ_mem orig_there]
  constructor
  · intro h
    induction h with
    | base h => exact orig_rch (mem_hres.1 h).1
    | step _ h ih => exact .field ih (mem_kids.1 h).1 (mem_kids.1 h).2.1
  · intro h
    induction h with
    | @root m i h1 h2 => exact .base (mem_hres.2 ⟨List.mem_append_right _ (in_stks h1 h2), nd _ (.root h1 h2)⟩)
    | @var i h1 h2 => exact .base (mem_hres.2 ⟨List.mem_append_left _ (in_glL h1 h2), nd _ (.var h1 h2)⟩)
    | @field r q h1 h2 h3 ih => exact .step ih (mem_kids.2 ⟨h2, h3, nd _ (.field h1 h2 h3)⟩)
theorem tk_iff {T : Tb} {H : Hp} (e : H.T = T) {r : Rf} : r ∈ T.tk ↔ There H r := by
  subst e
  constructor
  · intro h
    obtain ⟨i, h1, h2, h3, h4⟩ := tk_of h
    exact There.of (by omega) (by omega) (by rw [h1, Int.toNat_natCast]; exact h3) (by rw [h1, Int.toNat_natCast]; exact h4)
  · intro h
    obtain ⟨h0, h1, h2, h3, h4⟩ := h.lt
    have := tk_mem h2 h3
    have e : (⟨(r.s.toNat : Nat), H.T.gn r.s.toNat⟩ : Rf) = r := by
      obtain ⟨s, g⟩ := r
      dsimp only at h0 h4 ⊢
      rw [h4, Int.toNat_of_nonneg h0]
    rwa [e] at this
theorem lost_iff {A : Ar} (nd : Nd A) {r : Rf} : r ∈ A.lostL ↔ There A.H r ∧ ¬ Rch A r := by
  unfold Ar.lostL
  rw [List.mem_filter, tk_iff rfl, Bool.not_eq_true', decide_eq_false_iff_not, rq_iff nd]
/-! what mutators do -/
theorem Good19.nd {s : Sys} (h : Good19 s) : Nd s.A := h.safe.nd
/-! freeing -/
theorem give_same (T : Tb) {i j : Nat} (h : j ≠ i) : (T.give i).st j = T.st j ∧ (T.give i).gn j = T.gn j := by
  unfold Tb.give
  split
  · exact ⟨by show upd _ _ _ j = _; unfold upd; rw [if_neg h], by show upd _ _ _ j = _; unfold upd; rw [if_neg h]⟩
  · exact ⟨by show upd _ _ _ j = _; unfold upd; rw [if_neg h], by show upd _ _ _ j = _; unfold upd; rw [if_neg h]⟩
theorem give_st (T : Tb) (i : Nat) : (T.give i).st i ≠ 1 := by
  unfold Tb.give
  split
  · show upd _ _ _ i ≠ 1; unfold upd; rw [if_pos rfl]; decide
  · show upd _ _ _ i ≠ 1; unfold upd; rw [if_pos rfl]; decide
theorem freeR_of {A : Ar} {r : Rf} (h : There A.H r) : A.freeR r = ({ A with H := A.H.free r.s.toNat }, 0) := by
  unfold Ar.freeR Hp.freeR
  rw [if_neg (show ¬ ckV A.H.T r.s r.g ≠ 0 from fun hn => hn h)]
theorem free_there {A : Ar} {r : Rf} (h : There A.H r) {q : Rf} : There (A.freeR r).1.H q ↔ There A.H q ∧ q ≠ r := by
  rw [freeR_of h]
  show There (A.H.free r.s.toNat) q ↔ _
  obtain ⟨r0, r1, r2, r3, r4⟩ := h.lt
  constructor
  · intro hq
    obtain ⟨h0, h1, h2, h3, h4⟩ := hq.lt
    have hne : q.s.toNat ≠ r.s.toNat := fun e => by rw [e] at h3; exact give_st _ _ h3
    obtain ⟨e1, e2⟩ := give_same A.H.T hne
    have hn : (A.H.free r.s.toNat).T.n = A.H.T.n := Tb.give_n _ _
    refine ⟨There.of h0 (by rw [← hn]; exact h1) (e1.symm.trans h3) (e2.symm.trans h4), fun e => hne (by rw [e])⟩
  · rintro ⟨hq, hne⟩
    obtain ⟨h0, h1, h2, h3, h4⟩ := hq.lt
    have hns : q.s.toNat ≠ r.s.toNat := fun e => hne (hq.one h (by omega))
    obtain ⟨e1, e2⟩ := give_same A.H.T hns
    have hn : (A.H.free r.s.toNat).T.n = A.H.T.n := Tb.give_n _ _
    exact There.of h0 (by rw [hn]; exact h1) (e1.trans h3) (e2.trans h4)
theorem free_edge {A : Ar} {r : Rf} (h : There A.H r) {i : Nat} {q : Rf} (hi : i ≠ r.s.toNat) : Edge (A.freeR r).1.H i q ↔ Edge A.H i q := by
  rw [freeR_of h]
  show Edge (A.H.free r.s.toNat) i q ↔ _
  have hn : (A.H.free r.s.toNat).T.n = A.H.T.n := Tb.give_n _ _
  have e1 : (A.H.free r.s.toNat).T.st i = A.H.T.st i := (give_same A.H.T hi).1
  have e2 : (A.H.free r.s.toNat).ob i = A.H.ob i := updf_ne _ _ hi
  unfold Edge
  rw [hn, e1, e2]
theorem free_rch {A : Ar} (nd : Nd A) {r : Rf} (h : There A.H r) (hr : ¬ Rch A r) {q : Rf} : Rch (A.freeR r).1 q ↔ Rch A q := by
  have er : ∀ m, (A.freeR r).1.rt m = A.rt m := fun m => rfl
  have eg : ∀ i, (A.freeR r).1.gl i = A.gl i := fun i => rfl
  have em : (A.freeR r).1.many = A.many := rfl
  constructor
  · intro hq
    induction hq with
    | @root m i h1 h2 => exact .root h1 h2
    | @var i h1 h2 => exact .var h1 h2
    | @field x y h1 h2 h3 ih =>
      obtain ⟨t1, t2⟩ := (free_there h).1 h2
      have hns : x.s.toNat ≠ r.s.toNat := fun e => t2 (t1.one h (by have := t1.lt.1; have := h.lt.1; omega))
      exact .field ih t1 ((free_edge h hns).1 h3)
  · intro hq
    induction hq with
    | @root m i h1 h2 => exact .root (A := (A.freeR r).1) (m := m) (i := i) h1 h2
    | @var i h1 h2 => exact .var (A := (A.freeR r).1) (i := i) h1 h2
    | @field x y h1 h2 h3 ih =>
      have hne : x ≠ r := fun e => hr (e ▸ h1)
      have hns : x.s.toNat ≠ r.s.toNat := fun e => hne (h2.one h (by have := h2.lt.1; have := h.lt.1; omega))
      exact .field ih ((free_there h).2 ⟨h2, hne⟩) ((free_edge h hns).2 h3)
theorem srt_keys {A B : Ar} (na : Nd A) (nb : Nd B) (h : ∀ q, Rch B q ↔ Rch A q) : srt B.rq.keys = srt A.rq.keys := by
  have hp : B.rq.keys.Perm A.rq.keys := (List.perm_ext_iff_of_nodup (rq_nd B) (rq_nd A)).2 fun q => by rw [rq_iff nb, rq_iff na, h]
  exact srt_unique ((srt_perm _).trans hp) (srt_sorted _) (oneSlot_there fun r hr => rq_there hr)
theorem tk_nd (T : Tb) : T.tk.Nodup := by
  unfold Tb.tk
  generalize T.n = n
  induction n with
  | zero => simp [Tb.inn]
  | succ n ih =>
    by_cases h : T.st n = 1
    · rw [Tb.inn_yes h, List.map_append]
      refine List.nodup_append.2 ⟨ih, by simp, fun x hx y hy => ?_⟩
      obtain ⟨⟨i, g⟩, hi, rfl⟩ := List.mem_map.1 hx
      have hlt := (Tb.inn_mem hi).2.2
      obtain rfl : y = rfOf (n, T.gn n) := by simpa using hy
      intro e
      have : ((i : Nat) : Int) = (n : Nat) := congrArg Rf.s e
      omega
    · rw [Tb.inn_no h]; exact ih
theorem lost_len (A : Ar) : A.lostL.length ≤ A.H.T.n := Nat.le_trans (List.length_filter_le _ _) (tk_len _)
end Go.Proofs.YtehmoikbeflkaaaGreat

namespace Go.Proofs.YtehmoikbeflkaaaGreat
open Go.RowKit Go.ChangeShapes Go.WideShapes Go.ChangeAt Go.Deep
theorem Refs.cellk {w : World} {p : Option Addr} {n c : Nat} {l : List Rf} (h : Refs w (.slice p n c) l) {k : Nat} {r : Rf} (hk : l[k]? = some r) :
    ∃ g, p = some ⟨g, 0, none⟩ ∧ w.cell? ⟨g, k * 2, none⟩ = some (.int .i64 r.s) ∧ w.cell? ⟨g, k * 2 + 1, none⟩ = some (.int .u32 r.g) := by
  rcases h with ⟨h1, rfl⟩ | ⟨g, cap, cur, h1, h2, h3⟩
  · simp at hk
  · injection h1 with h1 h4 h5
    obtain ⟨a1, a2⟩ := h3 k r hk
    exact ⟨g, h1, cell_at h2 a1, cell_at h2 a2⟩
end Go.Proofs.YtehmoikbeflkaaaGreat
