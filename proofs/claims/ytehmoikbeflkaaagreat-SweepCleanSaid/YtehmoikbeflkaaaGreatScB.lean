/- estraylaw25: what is reached, all of it, once; sorted. -/
import Derived.Test.YtehmoikbeflkaaaGreatRcB
import Derived.Test.YtehmoikbeflkaaaGreatKqA
import Derived.Test.YtehmoikbeflkaaaGreatRcM
namespace Go.Proofs.YtehmoikbeflkaaaGreat
open Go.RowKit
set_option linter.unusedVariables false
set_option linter.unusedSimpArgs false

theorem sc1_call (x y : Rs) (W : World) : Calls Tryz.prog 60 #[.agg (encS x).toArray, .agg (encS y).toArray] W
    fun e w' => e = .returned (.int .i64 (cfS x y)) ∧ ∃ q os', w' = Go.Sort.grow (W.drewN q) os' := by
  obtain ⟨⟨xs, xg⟩, hx0, hx1⟩ := x
  obtain ⟨⟨ys, yg⟩, hy0, hy1⟩ := y
  dsimp only at hx0 hx1 hy0 hy1
  have hw : IntKind.i64.wrap (xs - ys) = xs - ys := IntWalk.i64_in _ (by omega)
  simp only [encS, encR, cfS]
  go_enter Tryz.func60, Tryz.ntmps60
  go_wp2
  go_ret
  exact ⟨rfl, 0, _, by rw [Go.Sort.alloc_eq_grow, Go.Sort.alloc_eq_grow, Go.Sort.grow_grow]; rfl⟩
theorem sc1_enters : ∀ args w, (callFunc 60 args).run Tryz.prog w = .ok (.enter 60 args) w := enters_of Tryz.func60 (by kernel_rfl) rfl
set_option maxHeartbeats 1000000 in
theorem sort25_ok (v : Value) (l : List Rf) (base : Nat) (w : World) (hv : Row w base v l) (hl : ∀ r ∈ l, 0 ≤ r.s ∧ r.s < 4611686018427387904) (ho : OneSlot l) (hn : l.length ≤ 65536) :
    Calls Tryz.prog 59 #[v, .func (.func 60) #[] #[]] w fun e w' => e = .returned (.tuple #[]) ∧ Row w' base v (srt l) ∧ Keeps (fun k => v.ownBlock = some k) w w' := by
  obtain ⟨ss, rfl⟩ : ∃ ss : List Rs, ss.map (·.1) = l := ⟨l.pmap (fun r h => ⟨r, h⟩) hl, by simp [List.map_pmap]⟩
  rw [List.length_map] at hn
  obtain ⟨hv1, hv2⟩ := hv
  rw [List.length_map] at hv1 hv2
  rcases hv2 with ⟨rfl, h0⟩ | ⟨g, cap, cur, rfl, hb, hg, r1, r2, r3, r4⟩
  · obtain rfl : ss = [] := List.eq_nil_of_length_eq_zero h0
    exact (AnyF.slices_SortFunc_none lay_sort none 0 _ w).mono fun e w' ⟨he, hw⟩ => ⟨he, by rw [hw]; exact Row.nil _ _, by rw [hw]; exact Keeps.refl _ _⟩
  · have e0 : (ss.map (·.1)).flatMap encR = ss.flatMap encS := by rw [List.flatMap_map]; rfl
    rw [e0] at hv1 r4
    have hcon := AnyQ.slices_SortFunc lay_sort 2 isAgg_ref sizeOf_ref encS (fun _ => rfl) (fun x v hv => by simp [encS, encR] at hv; rcases hv with rfl | rfl <;> rfl) cfS swoS 60 #[] g 0 cap ss.toArray w sc1_enters
      (fun _ _ _ _ x y => sc1_call x y _) (holdsK_of hg r4) (lt_block hg) (by simp; omega)
    refine hcon.mono ?_
    rintro e w' ⟨rfl, d', n, os, ⟨p1, _, p2⟩, hs, rfl⟩
    have hd : d'.size = ss.length := by simpa using p1
    obtain ⟨ts, rfl⟩ : ∃ ts : List Rs, ts.toArray = d' := ⟨d'.toList, by simp⟩
    have hl2 : ts.length = ss.length := by simpa using hd
    have hperm : ts.Perm ss := by
      have h0 := p2
      have e1 : (ss.toArray.extract 0 ss.toArray.size).toList = ss := by simp
      have e2 : (ts.toArray.extract 0 ss.toArray.size).toList = ts := by simp [← hl2]
      rw [e1, e2] at h0
      exact h0
    have hsrt := sorted_srt hperm (fun i j hij hj => hs i j (Nat.zero_le _) hij (by simpa [← hl2] using hj)) ho
    refine ⟨rfl, ?_, (keeps_sortedK _).mono (fun k _ h => by subst h; rfl)⟩
    rw [← hsrt]
    refine ⟨?_, .inr ⟨g, cap, _, ?_, hb, heap_sortedK _ hg, ?_, r2, by simp [Go.Sort.putCells, r3], ?_⟩⟩
    · rw [List.flatMap_map]
      show (ts.flatMap encS).length = _
      rw [flatMap_len, List.length_map]
    · simp [hl2]
    · simp [hl2]; exact r1
    · rw [List.flatMap_map, List.length_map]
      exact take_putK cur ts (by rw [r3]; exact Nat.mul_le_mul_right 2 (by omega))
/-! what is gathered: l, of which the first i have been looked at: these are the names m -/
def MInt (m : List Rf) : List (Rf × Value) := m.map fun r => (r, .int .i64 1)
structure Out (A : Ar) (l m : List Rf) (i : Nat) : Prop where
  gl : Gath A l
  nd : m.Nodup
  mem : ∀ r, r ∈ m ↔ r ∈ l.take i
  kid : ∀ r ∈ m, ∀ q, Edge A.H r.s.toNat q → q ∈ l
  len : l.length ≤ 136 + 4 * m.length
  vr : ∀ r ∈ A.glL, r ∈ l
  rt : ∀ k, k < A.many → ∀ r ∈ (A.rt k).l, r ∈ l
theorem Out.here {A : Ar} {l m : List Rf} {i : Nat} (h : Out A l m i) (nd : Nd A) : ∀ r ∈ m, There A.H r := fun r hr => nd r (h.gl r (List.mem_of_mem_take ((h.mem r).1 hr)))
theorem Out.mlen {A : Ar} {l m : List Rf} {i : Nat} (h : Out A l m i) (nd : Nd A) (hn : A.H.T.n ≤ 256) : m.length ≤ 256 ∧ l.length ≤ 1160 := by
  have h1 := nodup_there h.nd (h.here nd)
  have h2 := h.len
  omega
theorem Out.again {A : Ar} {l m : List Rf} {i : Nat} {x : Rf} (h : Out A l m i) (hx : l[i]? = some x) (hm : x ∈ m) : Out A l m (i + 1) :=
  ⟨h.gl, h.nd, fun r => by
    rw [List.take_add_one, hx, List.mem_append, h.mem r]
    refine ⟨.inl, fun hr => hr.elim id fun hr => ?_⟩
    obtain rfl : r = x := by simpa using hr
    exact (h.mem r).1 hm, h.kid, h.len, h.vr, h.rt⟩
theorem Out.more {A : Ar} {l l' m : List Rf} {i : Nat} {x : Rf} (h : Out A l m i) (hx : l[i]? = some x) (hm : x ∉ m) {t : List Rf} (hl : l' = l ++ t) (ht : t.length ≤ 4) (hg : Gath A l') (hk : ∀ q, Edge A.H x.s.toNat q → q ∈ l') : Out A l' (m ++ [x]) (i + 1) := by
  have hil : i < l.length := (List.getElem?_eq_some_iff.1 hx).1
  have sub : ∀ r, r ∈ l → r ∈ l' := fun r hr => by rw [hl]; exact List.mem_append_left _ hr
  refine ⟨hg, List.nodup_append.2 ⟨h.nd, by simp, fun a ha b hb => ?_⟩, fun r => ?_, fun r hr q hq => ?_, ?_, fun r hr => sub r (h.vr r hr), fun k hk r hr => sub r (h.rt k hk r hr)⟩
  · obtain rfl : b = x := by simpa using hb
    exact fun e => hm (e ▸ ha)
  · rw [hl, List.take_append_of_le_length (by omega), List.take_add_one, hx, List.mem_append, List.mem_append, h.mem r]
    simp
  · rcases List.mem_append.1 hr with hr | hr
    · exact sub q (h.kid r hr q hq)
    · obtain rfl : r = x := by simpa using hr
      exact hk q hq
  · have := h.len
    rw [hl, List.length_append, List.length_append]
    simp
    omega
theorem Out.done {A : Ar} {l m : List Rf} {i : Nat} (h : Out A l m i) (nd : Nd A) (hi : l.length ≤ i) (r : Rf) : r ∈ m ↔ Rch A r := by
  have e : ∀ r, r ∈ m ↔ r ∈ l := fun r => by rw [h.mem r, List.take_of_length_le hi]
  refine ⟨fun hr => h.gl r ((e r).1 hr), fun hr => ?_⟩
  induction hr with
  | @root m' j h1 h2 => exact (e _).2 (h.rt m' h1 _ (List.mem_map.2 ⟨j, List.mem_range.2 h2, rfl⟩))
  | @var j h1 h2 => exact (e _).2 (h.vr _ (List.mem_filter.2 ⟨List.mem_map.2 ⟨j, List.mem_range.2 h1, rfl⟩, h2⟩))
  | @field r q _ _ he ih => exact (e _).2 (h.kid r ih q he)
theorem vmap_own {w : World} {b base : Nat} {q : List (Rf × Value)} {v : Value} {l : List Rf} (h : VMap w b q) (hv : Row w base v l) : v.ownBlock ≠ some b := by
  intro e
  obtain ⟨⟨es, clock, h1, _⟩, _⟩ := h
  rcases hv.2 with ⟨rfl, _⟩ | ⟨g, c, cur, rfl, _, hg, _⟩
  · cases e
  · have : g = b := Option.some.inj e
    subst this
    have e2 := h1.symm.trans hg
    simp at e2
theorem Rf.Ok.nm {r : Rf} (h : r.Ok) : r.Nm := ⟨h.s0, by have := h.s1; omega, h.wf⟩
set_option maxRecDepth 100000 in
theorem mint_look {w : World} {b : Nat} {m : List Rf} (h : VMap w b (MInt m)) {r : Rf} (hr : r.Ok) : Sem.run Tryz.prog (Instr.lookup 225 (.map (some b)) (.agg #[.int .i64 r.s, .int .u32 r.g]) false) w = .ok (.int .i64 (if r ∈ m then 1 else 0)) w := by
  rcases h.look (t := 225) (e := 3) Tryz.underlying225 (z := .int .i64 0) (by kernel_rfl) hr.nm false with ⟨h1, h2⟩ | ⟨v, h1, h2⟩
  · have hm : r ∉ m := fun hm => h1 (r, .int .i64 1) (List.mem_map.2 ⟨r, hm, rfl⟩) rfl
    rw [if_neg hm]
    rw [if_neg Bool.false_ne_true] at h2
    exact h2
  · obtain ⟨q, hq, e⟩ := List.mem_map.1 h1
    injection e with e1 e2
    subst e1; subst e2
    rw [if_pos hq]
    rw [if_neg Bool.false_ne_true] at h2
    exact h2
set_option maxRecDepth 100000 in
theorem mint_set {w : World} {b : Nat} {m : List Rf} (h : VMap w b (MInt m)) {r : Rf} (hr : r.Ok) (hm : r ∉ m) : ∃ w', Sem.run Tryz.prog (Instr.mapUpdate 225 (.map (some b)) (.agg #[.int .i64 r.s, .int .u32 r.g]) (.int .i64 1)) w = .ok () w' ∧ VMap w' b (MInt (m ++ [r])) ∧ Keeps (fun y => y = b) w w' := by
  obtain ⟨w', h1, h2, h3⟩ := h.set (t := 225) (e := 3) Tryz.underlying225 hr.nm (fun x hx e => by obtain ⟨q, hq, rfl⟩ := List.mem_map.1 hx; exact hm (e ▸ hq)) (.int .i64 1)
  refine ⟨w', h1, ?_, h3⟩
  unfold MInt at h2 ⊢
  rw [List.map_append]
  exact h2
end Go.Proofs.YtehmoikbeflkaaaGreat
