/- estrayref19, plain: the ways that it finds are those of package reach. -/
import Derived.Test.YtkpnmajocgcccaaGreatRcH
namespace Go.Proofs.YtkpnmajocgcccaaGreat
open Go.RowKit
set_option linter.unusedVariables false
set_option linter.unusedSimpArgs false

theorem tkm {H : Hp} {r : Rf} : r ∈ H.T.tk ↔ There H r := by
  unfold Tb.tk
  constructor
  · intro h
    obtain ⟨⟨i, g⟩, hi, rfl⟩ := List.mem_map.1 h
    obtain ⟨h1, h2, h3⟩ := Tb.inn_mem hi
    exact There.of (by show (0 : Int) ≤ (i : Int); omega) (by show (i : Int) < _; omega) (by simpa [rfOf] using h1) (by simpa [rfOf] using h2)
  · intro h
    obtain ⟨h1, h2, h3, h4, h5⟩ := h.lt
    obtain ⟨suf, hs⟩ := Tb.inn_split (T := H.T) h3 h4
    refine List.mem_map.2 ⟨(r.s.toNat, H.T.gn r.s.toNat), by rw [hs]; simp, ?_⟩
    obtain ⟨s, g⟩ := r
    simp only [rfOf, Rf.mk.injEq]
    exact ⟨by show ((s.toNat : Nat) : Int) = s; have : (0 : Int) ≤ s := h1; omega, h5⟩
theorem tks_lt (T : Tb) (n : Nat) : ∀ r ∈ (T.inn 1 n).map rfOf, r.s < n := by
  intro r hr
  obtain ⟨⟨i, g⟩, hi, rfl⟩ := List.mem_map.1 hr
  have := (Tb.inn_mem hi).2.2
  show (i : Int) < n
  omega
theorem tks_sorted (T : Tb) : ∀ n, ((T.inn 1 n).map rfOf).Pairwise (fun x y => x.s < y.s)
  | 0 => List.Pairwise.nil
  | n + 1 => by
    have ih := tks_sorted T n
    by_cases h : T.st n = 1
    · rw [Tb.inn_yes h, List.map_append]
      refine List.pairwise_append.2 ⟨ih, by simp, fun x hx y hy => ?_⟩
      obtain rfl : y = rfOf (n, T.gn n) := by simpa using hy
      exact tks_lt T n x hx
    · rw [Tb.inn_no h]; exact ih
theorem tk_bySlot (T : Tb) : BySlot T.tk := (tks_sorted T T.n).imp (fun h => Int.le_of_lt h)
theorem tk_nodup (T : Tb) : T.tk.Nodup := (tks_sorted T T.n).imp (fun h e => by rw [e] at h; omega)
def srtd (T : Tb) (l : List Rf) : List Rf := T.tk.filter (fun r => decide (r ∈ l))
theorem mem_srtd {H : Hp} {l : List Rf} {r : Rf} : r ∈ srtd H.T l ↔ r ∈ l ∧ There H r := by
  unfold srtd; rw [List.mem_filter, tkm]; simp [and_comm]
theorem srtd_bySlot (T : Tb) (l : List Rf) : BySlot (srtd T l) := (tk_bySlot T).filter _
theorem srtd_is {H : Hp} {l m : List Rf} (hm : ∀ r, r ∈ m ↔ r ∈ l ∧ There H r) (hn : m.Nodup) : srtd H.T l = srt m :=
  srt_unique ((List.perm_ext_iff_of_nodup ((tk_nodup _).filter _) hn).2 fun r => by rw [hm]; exact mem_srtd) (srtd_bySlot _ _) (oneSlot_there fun r hr => ((hm r).1 hr).2)
/-! lists that grow -/
def grow1 (out : List Rf) (c : Rf) : List Rf := if c ∈ out then out else out ++ [c]
def growKs (out cs : List Rf) : List Rf := cs.foldl grow1 out
def growF (H : Hp) (out l : List Rf) : List Rf := l.foldl (fun out r => growKs out (kids H r)) out
def grow (H : Hp) (l : List Rf) : List Rf := growF H l l
theorem growKs_snoc (out cs : List Rf) (c : Rf) : growKs out (cs ++ [c]) = grow1 (growKs out cs) c := by simp [growKs]
theorem growF_snoc (H : Hp) (out l : List Rf) (r : Rf) : growF H out (l ++ [r]) = growKs (growF H out l) (kids H r) := by simp [growF]
def Gr (H : Hp) (l0 l : List Rf) : Prop := ∃ t, l = l0 ++ t ∧ t.Nodup ∧ (∀ c ∈ t, c ∉ l0) ∧ ∀ c ∈ t, RchL H l0 c
theorem Gr.refl (H : Hp) (l0 : List Rf) : Gr H l0 l0 := ⟨[], by simp, List.nodup_nil, by simp, by simp⟩
theorem Gr.rch {H : Hp} {l0 l : List Rf} (h : Gr H l0 l) : ∀ r ∈ l, RchL H l0 r := by
  obtain ⟨t, rfl, _, _, h4⟩ := h
  intro r hr
  rcases List.mem_append.1 hr with hr | hr
  · exact .base hr
  · exact h4 r hr
theorem Gr.g1 {H : Hp} {l0 l : List Rf} (h : Gr H l0 l) {c : Rf} (hc : RchL H l0 c) : Gr H l0 (grow1 l c) := by
  unfold grow1
  split
  · exact h
  · rename_i hn
    obtain ⟨t, rfl, h2, h3, h4⟩ := h
    refine ⟨t ++ [c], by simp, List.nodup_append.2 ⟨h2, by simp, fun x hx y hy e => ?_⟩, fun x hx => ?_, fun x hx => ?_⟩
    · rw [List.mem_singleton.1 hy] at e
      exact hn (List.mem_append.2 (.inr (e ▸ hx)))
    · rcases List.mem_append.1 hx with hx | hx
      · exact h3 x hx
      · rw [List.mem_singleton.1 hx]; exact fun e => hn (List.mem_append.2 (.inl e))
    · rcases List.mem_append.1 hx with hx | hx
      · exact h4 x hx
      · rw [List.mem_singleton.1 hx]; exact hc
theorem Gr.gK {H : Hp} {l0 : List Rf} : ∀ (cs : List Rf) {l : List Rf}, Gr H l0 l → (∀ c ∈ cs, RchL H l0 c) → Gr H l0 (growKs l cs)
  | [], _, h, _ => h
  | c :: cs, l, h, hc => by
    show Gr H l0 (growKs (grow1 l c) cs)
    exact Gr.gK cs (h.g1 (hc c (by simp))) (fun x hx => hc x (by simp [hx]))
theorem Gr.gF {H : Hp} {l0 : List Rf} : ∀ (m : List Rf) {l : List Rf}, Gr H l0 l → (∀ r ∈ m, RchL H l0 r) → Gr H l0 (growF H l m)
  | [], _, h, _ => h
  | r :: m, l, h, hm => by
    show Gr H l0 (growF H (growKs l (kids H r)) m)
    exact Gr.gF m (Gr.gK _ h (fun c hc => .step (hm r (by simp)) hc)) (fun x hx => hm x (by simp [hx]))
theorem Gr.gr {H : Hp} {l0 l : List Rf} (h : Gr H l0 l) : Gr H l0 (grow H l) := Gr.gF l h h.rch
theorem Gr.len {H : Hp} {l0 l : List Rf} (h : Gr H l0 l) (hl : ∀ r ∈ l0, There H r) : l.length ≤ l0.length + H.T.n := by
  obtain ⟨t, rfl, h2, _, h4⟩ := h
  have := nodup_there h2 (fun r hr => (h4 r hr).there hl)
  simp; omega
theorem grow1_pre (l : List Rf) (c : Rf) : ∃ t, grow1 l c = l ++ t := by
  unfold grow1
  split
  · exact ⟨[], by simp⟩
  · exact ⟨_, rfl⟩
theorem growKs_pre : ∀ (cs l : List Rf), ∃ t, growKs l cs = l ++ t
  | [], l => ⟨[], by simp [growKs]⟩
  | c :: cs, l => by
    obtain ⟨t, h⟩ := grow1_pre l c
    obtain ⟨u, k⟩ := growKs_pre cs (grow1 l c)
    exact ⟨t ++ u, by show growKs (grow1 l c) cs = _; rw [k, h, List.append_assoc]⟩
theorem growF_pre (H : Hp) : ∀ (m l : List Rf), ∃ t, growF H l m = l ++ t
  | [], l => ⟨[], by simp [growF]⟩
  | r :: m, l => by
    obtain ⟨t, h⟩ := growKs_pre (kids H r) l
    obtain ⟨u, k⟩ := growF_pre H m (growKs l (kids H r))
    exact ⟨t ++ u, by show growF H (growKs l (kids H r)) m = _; rw [k, h, List.append_assoc]⟩
theorem growKs_mem : ∀ (cs l : List Rf) {c : Rf}, c ∈ cs → c ∈ growKs l cs
  | c' :: cs, l, c, h => by
    show c ∈ growKs (grow1 l c') cs
    rcases List.mem_cons.1 h with rfl | h
    · obtain ⟨t, k⟩ := growKs_pre cs (grow1 l c)
      rw [k]
      refine List.mem_append.2 (.inl ?_)
      unfold grow1
      split
      · assumption
      · simp
    · exact growKs_mem cs _ h
theorem growF_mem (H : Hp) : ∀ (m l : List Rf) {r c : Rf}, r ∈ m → c ∈ kids H r → c ∈ growF H l m
  | r' :: m, l, r, c, h, hc => by
    show c ∈ growF H (growKs l (kids H r')) m
    rcases List.mem_cons.1 h with rfl | h
    · obtain ⟨t, k⟩ := growF_pre H m (growKs l (kids H r))
      rw [k]
      exact List.mem_append.2 (.inl (growKs_mem _ _ hc))
    · exact growF_mem H m _ h hc
theorem grow_len_le (H : Hp) (l : List Rf) : l.length ≤ (grow H l).length := by
  obtain ⟨t, h⟩ := growF_pre H l l
  show l.length ≤ (growF H l l).length
  rw [h]; simp
theorem grow_same {H : Hp} {l : List Rf} (h : (grow H l).length = l.length) : grow H l = l := by
  obtain ⟨t, k⟩ := growF_pre H l l
  have e : grow H l = l ++ t := k
  rw [e] at h ⊢
  have : t = [] := List.length_eq_zero_iff.1 (by simp at h; simp [h])
  rw [this]; simp
theorem Gr.done {H : Hp} {l0 l : List Rf} (h : Gr H l0 l) (hg : (grow H l).length = l.length) {r : Rf} : r ∈ l ↔ RchL H l0 r := by
  refine ⟨h.rch r, fun hr => ?_⟩
  have e := grow_same hg
  induction hr with
  | base hr => obtain ⟨t, rfl, _⟩ := h; exact List.mem_append.2 (.inl hr)
  | step _ hc ih => rw [← e]; exact growF_mem H l l ih hc
theorem Gr.is {H : Hp} {l0 l : List Rf} (h : Gr H l0 l) (hl : ∀ r ∈ l0, There H r) (hg : (grow H l).length = l.length) : srtd H.T l = srt (explQ H l0).keys :=
  srtd_is (fun r => by rw [explQ_mem hl, ← h.done hg]; exact ⟨fun hr => ⟨hr, ((h.rch r hr)).there hl⟩, fun hr => hr.1⟩) (exp_all H l0 H.T.n).nd
theorem rchL_congr {H : Hp} {l m : List Rf} (h : ∀ r, r ∈ l → r ∈ m) {r : Rf} (hr : RchL H l r) : RchL H m r := by
  induction hr with
  | base hr => exact .base (h _ hr)
  | step _ hc ih => exact .step ih hc
theorem srtq_congr {H : Hp} {l m : List Rf} (hl : ∀ r ∈ l, There H r) (h : ∀ r, r ∈ l ↔ r ∈ m) : srt (explQ H l).keys = srt (explQ H m).keys := by
  have hm : ∀ r ∈ m, There H r := fun r hr => hl r ((h r).2 hr)
  have e : ∀ r, r ∈ (explQ H l).keys ↔ r ∈ (explQ H m).keys := fun r => by
    rw [explQ_mem hl, explQ_mem hm]
    exact ⟨rchL_congr fun r hr => (h r).1 hr, rchL_congr fun r hr => (h r).2 hr⟩
  have hp := (List.perm_ext_iff_of_nodup (exp_all H l H.T.n).nd (exp_all H m H.T.n).nd).2 e
  exact srt_unique ((srt_perm _).trans hp) (srt_sorted _) (oneSlot_there fun r hr => ((explQ_mem hm).1 hr).there hm)
/-! sets that are closed -/
end Go.Proofs.YtkpnmajocgcccaaGreat

namespace Go.Proofs.YtkpnmajocgcccaaGreat
open Go.RowKit
set_option linter.unusedVariables false
set_option linter.unusedSimpArgs false

theorem addqs_form (b : Rf) : ∀ (m : List Rf) (q : Qe), ∃ t : List Rf, addqs q m b = q ++ t.map (fun r => (r, b)) ∧ t.Sublist m ∧ ∀ r ∈ t, r ∉ q.keys
  | [], q => ⟨[], by simp [addqs], List.Sublist.refl _, by simp⟩
  | y :: m, q => by
    obtain ⟨t, h1, h2, h3⟩ := addqs_form b m (addq q y b)
    have e : addqs q (y :: m) b = addqs (addq q y b) m b := rfl
    by_cases hy : y ∈ q.keys
    · rw [show addq q y b = q from if_pos hy] at h1 h3
      exact ⟨t, by rw [e, show addq q y b = q from if_pos hy, h1], h2.cons _, h3⟩
    · have ea : addq q y b = q ++ [(y, b)] := if_neg hy
      rw [ea] at h1 h3
      refine ⟨y :: t, by rw [e, ea, h1]; simp, h2.cons_cons _, fun r hr => ?_⟩
      rcases List.mem_cons.1 hr with rfl | hr
      · exact hy
      · exact fun h => h3 r hr (by unfold Qe.keys at h ⊢; rw [List.map_append]; exact List.mem_append.2 (.inl h))
theorem start_form : ∀ (m : List Rf) (q : Qe), ∃ t : List Rf, m.foldl (fun q r => addq q r r) q = q ++ t.map (fun r => (r, r)) ∧ t.Sublist m
  | [], q => ⟨[], by simp, List.Sublist.refl _⟩
  | y :: m, q => by
    obtain ⟨t, h1, h2⟩ := start_form m (addq q y y)
    by_cases hy : y ∈ q.keys
    · rw [show addq q y y = q from if_pos hy] at h1
      exact ⟨t, by rw [List.foldl_cons, show addq q y y = q from if_pos hy, h1], h2.cons _⟩
    · have ea : addq q y y = q ++ [(y, y)] := if_neg hy
      rw [ea] at h1
      exact ⟨y :: t, by rw [List.foldl_cons, ea, h1]; simp, h2.cons_cons _⟩
def Pos (q : Qe) (b : Rf) (i : Nat) : Prop := ∃ c, q[i]? = some (b, c)
theorem Pos.mono {q t : Qe} {b : Rf} {i : Nat} (h : Pos q b i) : Pos (q ++ t) b i := by
  obtain ⟨c, h⟩ := h; exact ⟨c, pre_get rfl h⟩
theorem Pos.lt {q : Qe} {b : Rf} {i : Nat} (h : Pos q b i) : i < q.length := by
  obtain ⟨c, h⟩ := h; exact (List.getElem?_eq_some_iff.1 h).1
theorem Pos.key {q : Qe} {b : Rf} {i : Nat} (h : Pos q b i) : b ∈ q.keys := by
  obtain ⟨c, h⟩ := h; exact List.mem_map.2 ⟨_, List.mem_of_getElem? h, rfl⟩
theorem Pos.unique {q : Qe} (hn : q.keys.Nodup) {b : Rf} {i j : Nat} (h : Pos q b i) (k : Pos q b j) : i = j := by
  obtain ⟨c, h⟩ := h
  obtain ⟨d, k⟩ := k
  have h' : q.keys[i]? = some b := by unfold Qe.keys; rw [List.getElem?_map, h]; rfl
  have k' : q.keys[j]? = some b := by unfold Qe.keys; rw [List.getElem?_map, k]; rfl
  exact (List.getElem?_inj (List.getElem?_eq_some_iff.1 h').1 hn).1 (h'.trans k'.symm)
theorem Pos.of_key {q : Qe} {b : Rf} (h : b ∈ q.keys) : ∃ i, Pos q b i := by
  obtain ⟨x, hx, rfl⟩ := List.mem_map.1 h
  obtain ⟨i, hi⟩ := List.mem_iff_getElem?.1 hx
  exact ⟨i, x.2, hi⟩
theorem Pos.inj {q : Qe} {b c : Rf} {i : Nat} (h : Pos q b i) (k : Pos q c i) : b = c := by
  obtain ⟨x, h⟩ := h
  obtain ⟨y, k⟩ := k
  rw [h] at k
  exact congrArg Prod.fst (Option.some.inj k)
structure Od (H : Hp) (i : Nat) (q : Qe) : Prop where
  od : ∀ (j j' : Nat) (u b v c : Rf), j < j' → q[j]? = some (u, b) → q[j']? = some (v, c) → (v = c → u = b ∧ u.s ≤ v.s) ∧
    (v ≠ c → u ≠ b → ∃ ib ic, Pos q b ib ∧ Pos q c ic ∧ ib ≤ ic ∧ (ib = ic → u.s ≤ v.s))
  pm : ∀ (j : Nat) (v c : Rf), q[j]? = some (v, c) → v ≠ c → ∃ ic, ic < i ∧ Pos q c ic ∧ ∀ k y, Pos q y k → v ∈ kids H y → ic ≤ k
theorem app_get {q : Qe} {t : List Rf} {b : Rf} {j : Nat} {x : Rf × Rf} (h : (q ++ t.map (fun r => (r, b)))[j]? = some x) : q[j]? = some x ∨ (q.length ≤ j ∧ t[j - q.length]? = some x.1 ∧ x.2 = b) := by
  rcases Nat.lt_or_ge j q.length with hj | hj
  · rw [List.getElem?_append_left hj] at h; exact .inl h
  · rw [List.getElem?_append_right hj, List.getElem?_map] at h
    rcases ht : t[j - q.length]? with _ | r
    · rw [ht] at h; cases h
    · rw [ht] at h
      obtain rfl := Option.some.inj h
      exact .inr ⟨hj, rfl, rfl⟩
theorem sub_sorted {t m : List Rf} (h : t.Sublist m) (hs : BySlot m) {i j : Nat} {u v : Rf} (hij : i < j) (hu : t[i]? = some u) (hv : t[j]? = some v) : u.s ≤ v.s := by
  have hp : t.Pairwise (fun x y => x.s ≤ y.s) := hs.sublist h
  obtain ⟨hi, rfl⟩ := List.getElem?_eq_some_iff.1 hu
  obtain ⟨hj, rfl⟩ := List.getElem?_eq_some_iff.1 hv
  exact List.pairwise_iff_getElem.1 hp i j hi hj hij
theorem od_start (H : Hp) (l : List Rf) : Od H 0 (startq (srt l)) := by
  obtain ⟨t, h1, h2⟩ := start_form (srt l) []
  have e : startq (srt l) = t.map (fun r => (r, r)) := by show List.foldl _ _ _ = _; rw [h1]; simp
  have get : ∀ (j : Nat) (u b : Rf), (startq (srt l))[j]? = some (u, b) → t[j]? = some u ∧ u = b := by
    intro j u b h
    rw [e, List.getElem?_map] at h
    rcases ht : t[j]? with _ | r
    · rw [ht] at h; cases h
    · rw [ht] at h
      have := Option.some.inj h
      simp only [Prod.mk.injEq] at this
      exact ⟨by rw [this.1], this.1.symm.trans this.2⟩
  refine ⟨fun j j' u b v c hj h1 h2' => ⟨fun _ => ?_, fun hn => absurd (get _ _ _ h2').2 hn⟩, fun j v c h hn => absurd (get _ _ _ h).2 hn⟩
  exact ⟨(get _ _ _ h1).2, sub_sorted h2 (srt_sorted l) hj (get _ _ _ h1).1 (get _ _ _ h2').1⟩
theorem od_step {H : Hp} {l : List Rf} {i : Nat} {q : Qe} (E : Exp H l i q) (h : Od H i q) : Od H (i + 1) (exq H q i) := by
  unfold exq
  split
  · rename_i x hx
    obtain ⟨t, h1, h2, h3⟩ := addqs_form x.1 (srt (kids H x.1)) q
    rw [h1]
    have hxp : Pos q x.1 i := ⟨x.2, hx⟩
    have hil := hxp.lt
    have hxk := hxp.key
    have new : ∀ (k : Nat) (v : Rf), t[k]? = some v → v ≠ x.1 ∧ v ∈ kids H x.1 := fun k v hk => by
      have hm := List.mem_of_getElem? hk
      exact ⟨fun e => h3 v hm (e ▸ hxk), mem_srt.1 (h2.subset hm)⟩
    refine ⟨fun j j' u b v c hj hu hv => ?_, fun j v c hv hn => ?_⟩
    · rcases app_get hv with hv' | ⟨hjv, htv, hcv⟩
      · have hj' : j < q.length := Nat.lt_trans hj (List.getElem?_eq_some_iff.1 hv').1
        have hu' : q[j]? = some (u, b) := by rw [List.getElem?_append_left hj'] at hu; exact hu
        obtain ⟨o1, o2⟩ := h.od j j' u b v c hj hu' hv'
        exact ⟨o1, fun a b => let ⟨ib, ic, p1, p2, p3⟩ := o2 a b; ⟨ib, ic, p1.mono, p2.mono, p3⟩⟩
      · dsimp only at htv hcv
        obtain ⟨n1, n2⟩ := new _ _ htv
        subst hcv
        refine ⟨fun e => absurd e n1, fun _ hub => ?_⟩
        rcases app_get hu with hu' | ⟨hju, htu, hbu⟩
        · obtain ⟨ib, p1, p2, p3⟩ := h.pm j u b hu' hub
          exact ⟨ib, i, p2.mono, hxp.mono, by omega, fun e => by omega⟩
        · dsimp only at htu hbu
          subst hbu
          exact ⟨i, i, hxp.mono, hxp.mono, Nat.le_refl _, fun _ => sub_sorted h2 (srt_sorted _) (by omega) htu htv⟩
    · rcases app_get hv with hv' | ⟨hjv, htv, hcv⟩
      · obtain ⟨ic, p1, p2, p3⟩ := h.pm j v c hv' hn
        refine ⟨ic, by omega, p2.mono, fun k y hy hk => ?_⟩
        obtain ⟨d, hd⟩ := hy
        rcases app_get hd with hd' | ⟨hk', _⟩
        · exact p3 k y ⟨d, hd'⟩ hk
        · have := p2.lt; omega
      · dsimp only at htv hcv
        subst hcv
        refine ⟨i, Nat.lt_succ_self i, hxp.mono, fun k y hy hk => ?_⟩
        obtain ⟨d, hd⟩ := hy
        rcases app_get hd with hd' | ⟨hk', _⟩
        · rcases Nat.lt_or_ge k i with hki | hki
          · exact absurd (E.cl k _ hki hd' v hk) (h3 v (List.mem_of_getElem? htv))
          · exact hki
        · omega
  · exact ⟨h.od, fun j v c hv hn => let ⟨ic, p1, p2⟩ := h.pm j v c hv hn; ⟨ic, by omega, p2⟩⟩
theorem od_all (H : Hp) (l : List Rf) : ∀ i, Od H i (expl H l i)
  | 0 => od_start H l
  | i + 1 => od_step (exp_all H l i) (od_all H l i)
/-! ways back from an object -/
inductive Wk (H : Hp) (r : Rf) : Rf → Nat → Prop
  | nil : Wk H r r 0
  | step {y c : Rf} {d : Nat} : c ∈ kids H y → Wk H r c d → Wk H r y (d + 1)
abbrev Be := List (Rf × Nat)
def bk1 (H : Hp) (x : Rf) (d : Nat) (q : Be) (y : Rf) : Be := if x ∈ kids H y ∧ y ∉ q.map (·.1) then q ++ [(y, d)] else q
def bkS (H : Hp) (q : Be) (i : Nat) : Be := match q[i]? with
  | some x => H.T.tk.foldl (bk1 H x.1 (x.2 + 1)) q
  | none => q
def bk (H : Hp) (r : Rf) : Nat → Be
  | 0 => [(r, 0)]
  | i + 1 => bkS H (bk H r i) i
theorem bk1_form (H : Hp) (x : Rf) (d : Nat) : ∀ (m : List Rf) (q : Be), m.Nodup → ∃ t : List Rf, m.foldl (bk1 H x d) q = q ++ t.map (fun y => (y, d)) ∧ t.Sublist m ∧ (∀ y ∈ t, x ∈ kids H y ∧ y ∉ q.map (·.1)) ∧ ∀ y ∈ m, x ∈ kids H y → y ∈ q.map (·.1) ∨ y ∈ t
  | [], q, _ => ⟨[], by simp, List.Sublist.refl _, by simp, by simp⟩
  | y :: m, q, hn => by
    obtain ⟨hy1, hn2⟩ := List.nodup_cons.1 hn
    obtain ⟨t, h1, h2, h3, h4⟩ := bk1_form H x d m (bk1 H x d q y) hn2
    by_cases hc : x ∈ kids H y ∧ y ∉ q.map (·.1)
    · have ea : bk1 H x d q y = q ++ [(y, d)] := if_pos hc
      rw [ea] at h1 h3 h4
      refine ⟨y :: t, by rw [List.foldl_cons, ea, h1]; simp, h2.cons_cons _, fun z hz => ?_, fun z hz hk => ?_⟩
      · rcases List.mem_cons.1 hz with rfl | hz
        · exact hc
        · exact ⟨(h3 z hz).1, fun h => (h3 z hz).2 (by rw [List.map_append]; exact List.mem_append.2 (.inl h))⟩
      · rcases List.mem_cons.1 hz with rfl | hz
        · exact .inr (by simp)
        · rcases h4 z hz hk with h | h
          · rw [List.map_append] at h
            rcases List.mem_append.1 h with h | h
            · exact .inl h
            · have : z = y := by simpa using h
              subst this; exact .inr (by simp)
          · exact .inr (by simp [h])
    · have ea : bk1 H x d q y = q := if_neg hc
      rw [ea] at h1 h3 h4
      refine ⟨t, by rw [List.foldl_cons, ea, h1], h2.cons _, h3, fun z hz hk => ?_⟩
      rcases List.mem_cons.1 hz with rfl | hz
      · exact .inl (Classical.byContradiction fun h => hc ⟨hk, h⟩)
      · exact h4 z hz hk
structure Bk (H : Hp) (r : Rf) (i : Nat) (q : Be) : Prop where
  nd : (q.map (·.1)).Nodup
  wk : ∀ x d, (x, d) ∈ q → Wk H r x d
  th : ∀ x d, (x, d) ∈ q → There H x
  mono : ∀ (j j' : Nat) (x : Rf) (d : Nat) (x' : Rf) (d' : Nat), j ≤ j' → q[j]? = some (x, d) → q[j']? = some (x', d') → d ≤ d'
  le : ∀ (x : Rf) (d : Nat) (x' : Rf) (d' : Nat), q[i]? = some (x, d) → (x', d') ∈ q → d' ≤ d + 1
  cl : ∀ (j : Nat) (x : Rf) (d : Nat), j < i → q[j]? = some (x, d) → ∀ y, x ∈ kids H y → ∃ d', d' ≤ d + 1 ∧ (y, d') ∈ q
  r0 : (r, 0) ∈ q
theorem bk_start {H : Hp} {r : Rf} (hr : There H r) : Bk H r 0 (bk H r 0) := by
  refine ⟨by simp [bk], fun x d h => ?_, fun x d h => ?_, fun j j' x d x' d' _ h1 h2 => ?_, fun x d x' d' h1 h2 => ?_, fun j x d hj => by omega, by simp [bk]⟩
  · simp [bk] at h; obtain ⟨rfl, rfl⟩ := h; exact .nil
  · simp [bk] at h; rw [h.1]; exact hr
  · have a := List.mem_of_getElem? h1
    simp [bk] at a; omega
  · simp [bk] at h2; omega
theorem bapp_get {q : Be} {t : List Rf} {b : Nat} {j : Nat} {x : Rf × Nat} (h : (q ++ t.map (fun r => (r, b)))[j]? = some x) : q[j]? = some x ∨ (q.length ≤ j ∧ x.1 ∈ t ∧ x.2 = b) := by
  rcases Nat.lt_or_ge j q.length with hj | hj
  · rw [List.getElem?_append_left hj] at h; exact .inl h
  · rw [List.getElem?_append_right hj, List.getElem?_map] at h
    rcases ht : t[j - q.length]? with _ | r
    · rw [ht] at h; cases h
    · rw [ht] at h
      obtain rfl := Option.some.inj h
      exact .inr ⟨hj, List.mem_of_getElem? ht, rfl⟩
theorem bk_step {H : Hp} {r : Rf} {i : Nat} {q : Be} (h : Bk H r i q) : Bk H r (i + 1) (bkS H q i) := by
  unfold bkS
  split
  · rename_i x hx
    obtain ⟨x, d⟩ := x
    obtain ⟨t, h1, h2, h3, h4⟩ := bk1_form H x (d + 1) H.T.tk q (tk_nodup _)
    dsimp only
    rw [h1]
    have hil := (List.getElem?_eq_some_iff.1 hx).1
    have hwx := h.wk x d (List.mem_of_getElem? hx)
    have mem : ∀ (y : Rf) (e : Nat), (y, e) ∈ q ++ t.map (fun y => (y, d + 1)) → (y, e) ∈ q ∨ (y ∈ t ∧ e = d + 1) := fun y e hy => by
      rcases List.mem_append.1 hy with hy | hy
      · exact .inl hy
      · obtain ⟨z, hz, e'⟩ := List.mem_map.1 hy
        simp only [Prod.mk.injEq] at e'
        exact .inr ⟨e'.1 ▸ hz, e'.2.symm⟩
    refine ⟨?_, fun y e hy => ?_, fun y e hy => ?_, fun j j' y e y' e' hj hy hy' => ?_, fun y e y' e' hy hy' => ?_, fun j y e hj hy z hz => ?_, List.mem_append.2 (.inl h.r0)⟩
    · rw [List.map_append, List.map_map]
      have e : (List.map ((fun x => x.1) ∘ fun y => (y, d + 1)) t) = t := by
        simp [Function.comp_def]
      rw [e]
      exact List.nodup_append.2 ⟨h.nd, (tk_nodup _).sublist h2, fun y hy z hz e => (h3 z hz).2 (e ▸ hy)⟩
    · rcases mem y e hy with hy | ⟨hyt, rfl⟩
      · exact h.wk y e hy
      · exact .step (h3 y hyt).1 hwx
    · rcases mem y e hy with hy | ⟨hyt, rfl⟩
      · exact h.th y e hy
      · exact (mem_kids.1 (h3 y hyt).1).1
    · rcases bapp_get hy' with hy' | ⟨hj', _, e1⟩
      · have hj2 : j < q.length := Nat.lt_of_le_of_lt hj (List.getElem?_eq_some_iff.1 hy').1
        rw [List.getElem?_append_left hj2] at hy
        exact h.mono j j' y e y' e' hj hy hy'
      · dsimp only at e1
        rcases bapp_get hy with hy | ⟨_, _, e2⟩
        · have := h.le x d y e hx (List.mem_of_getElem? hy); omega
        · dsimp only at e2; omega
    · have hde : d ≤ e := by
        rcases bapp_get hy with hy | ⟨_, _, e2⟩
        · exact h.mono i (i + 1) x d y e (by omega) hx hy
        · dsimp only at e2; omega
      rcases mem y' e' hy' with hy' | ⟨_, rfl⟩
      · have := h.le x d y' e' hx hy'; omega
      · omega
    · rcases Nat.lt_succ_iff_lt_or_eq.1 hj with hj | rfl
      · rw [List.getElem?_append_left (by omega)] at hy
        obtain ⟨d', a, b⟩ := h.cl j y e hj hy z hz
        exact ⟨d', a, List.mem_append.2 (.inl b)⟩
      · rw [List.getElem?_append_left hil, hx] at hy
        obtain ⟨rfl, rfl⟩ := Prod.mk.inj (Option.some.inj hy)
        rcases h4 z (tkm.2 (mem_kids.1 hz).1) hz with hk | hk
        · obtain ⟨⟨z', d'⟩, hm, e'⟩ := List.mem_map.1 hk
          dsimp only at e'
          subst e'
          exact ⟨d', h.le _ _ _ _ hx hm, List.mem_append.2 (.inl hm)⟩
        · exact ⟨d + 1, Nat.le_refl _, List.mem_append.2 (.inr (List.mem_map.2 ⟨z, hk, rfl⟩))⟩
  · rename_i hx
    refine ⟨h.nd, h.wk, h.th, h.mono, fun y e y' e' hy _ => ?_, fun j y e hj hy => ?_, h.r0⟩
    · rw [List.getElem?_eq_none (by have := List.getElem?_eq_none_iff.1 hx; omega)] at hy; cases hy
    · rcases Nat.lt_succ_iff_lt_or_eq.1 hj with hj | rfl
      · exact h.cl j y e hj hy
      · rw [hx] at hy; cases hy
theorem bk_all {H : Hp} {r : Rf} (hr : There H r) : ∀ i, Bk H r i (bk H r i)
  | 0 => bk_start hr
  | i + 1 => bk_step (bk_all hr i)
theorem Bk.len {H : Hp} {r : Rf} {i : Nat} {q : Be} (h : Bk H r i q) : q.length ≤ H.T.n := by
  have := nodup_there h.nd (fun x hx => by obtain ⟨⟨y, d⟩, hy, rfl⟩ := List.mem_map.1 hx; exact h.th y d hy)
  simpa using this
structure Far (H : Hp) (r : Rf) (q : Be) : Prop where
  nd : (q.map (·.1)).Nodup
  wk : ∀ x d, (x, d) ∈ q → Wk H r x d
  th : ∀ x d, (x, d) ∈ q → There H x
  le : ∀ x d, Wk H r x d → ∃ d', d' ≤ d ∧ (x, d') ∈ q
theorem Bk.far {H : Hp} {r : Rf} {i : Nat} {q : Be} (h : Bk H r i q) (hi : q.length ≤ i) : Far H r q := by
  refine ⟨h.nd, h.wk, h.th, fun x d hw => ?_⟩
  induction hw with
  | nil => exact ⟨0, Nat.le_refl _, h.r0⟩
  | @step y c d hc _ ih =>
    obtain ⟨d', a, b⟩ := ih
    obtain ⟨j, hj⟩ := List.mem_iff_getElem?.1 b
    obtain ⟨e, e1, e2⟩ := h.cl j c d' (Nat.lt_of_lt_of_le (List.getElem?_eq_some_iff.1 hj).1 hi) hj y hc
    exact ⟨e, by omega, e2⟩
theorem Far.unique {H : Hp} {r : Rf} {q : Be} (h : Far H r q) {x : Rf} {d e : Nat} (h1 : (x, d) ∈ q) (h2 : (x, e) ∈ q) : d = e := by
  obtain ⟨i, hi⟩ := List.mem_iff_getElem?.1 h1
  obtain ⟨j, hj⟩ := List.mem_iff_getElem?.1 h2
  have h' : (q.map (·.1))[i]? = some x := by rw [List.getElem?_map, hi]; rfl
  have k' : (q.map (·.1))[j]? = some x := by rw [List.getElem?_map, hj]; rfl
  have := (List.getElem?_inj (List.getElem?_eq_some_iff.1 h').1 h.nd).1 (h'.trans k'.symm)
  subst this
  rw [hi] at hj
  exact (Prod.mk.inj (Option.some.inj hj)).2
theorem Far.min {H : Hp} {r : Rf} {q : Be} (h : Far H r q) {x : Rf} {d e : Nat} (h1 : (x, d) ∈ q) (h2 : Wk H r x e) : d ≤ e := by
  obtain ⟨d', a, b⟩ := h.le x e h2
  rw [h.unique h1 b]; exact a
theorem Far.zero {H : Hp} {r : Rf} {q : Be} (h : Far H r q) {x : Rf} {d : Nat} (h1 : (x, d) ∈ q) : d = 0 ↔ x = r := by
  constructor
  · rintro rfl
    cases h.wk x 0 h1
    rfl
  · rintro rfl
    exact Nat.le_zero.1 (h.min h1 .nil)
inductive Gdy (H : Hp) (q : Be) (l : List Rf) : List Rf → Rf → Nat → Prop
  | top {x : Rf} {d : Nat} : x ∈ l → (x, d) ∈ q → (∀ y d', y ∈ l → (y, d') ∈ q → d ≤ d') → (∀ y, y ∈ l → (y, d) ∈ q → x.s ≤ y.s) → Gdy H q l [x] x d
  | step {u : List Rf} {x c : Rf} {d : Nat} : Gdy H q l u x (d + 1) → c ∈ kids H x → (c, d) ∈ q → (∀ y, y ∈ kids H x → (y, d) ∈ q → c.s ≤ y.s) → Gdy H q l (u ++ [c]) c d
theorem Wk.snoc {H : Hp} {r c z : Rf} {k : Nat} (h : Wk H c z k) (hc : r ∈ kids H c) : Wk H r z (k + 1) := by
  induction h with
  | nil => exact .step hc .nil
  | step hk _ ih => exact .step hk ih
theorem Wk.trans {H : Hp} {r c z : Rf} {k d : Nat} (h : Wk H c z k) (h2 : Wk H r c d) : Wk H r z (k + d) := by
  induction h with
  | nil => simpa using h2
  | @step y c' k hk _ ih => rw [show k + 1 + d = k + d + 1 by omega]; exact .step hk ih
theorem Dp.wk {H : Hp} {l : List Rf} {i : Nat} {q : Qe} (E : Exp H l i q) {y : Rf} {u : List Rf} (hu : Wy q y u) : ∃ z ∈ l, Wk H y z (u.length - 1) := by
  induction hu with
  | @top r h1 =>
    obtain ⟨x, e1, e2⟩ := (Wy.top h1).last E
    obtain rfl : r = x := by simpa using e1
    exact ⟨r, e2, .nil⟩
  | @step r b u h1 h2 h3 ih =>
    obtain ⟨z, hz, hw⟩ := ih
    obtain ⟨j, hj⟩ := List.mem_iff_getElem?.1 h1
    rcases E.by' j _ hj with ⟨e, _⟩ | ⟨_, e, _⟩
    · exact absurd e h2
    · refine ⟨z, hz, ?_⟩
      have hl : 0 < u.length := List.length_pos_iff.2 h3.ne
      rw [show (r :: u).length - 1 = u.length - 1 + 1 by simp; omega]
      exact hw.snoc e
theorem Wy.par {q : Qe} {r : Rf} {u : List Rf} (h : Wy q r u) (hl : 1 < u.length) : ∃ b v, (r, b) ∈ q ∧ b ≠ r ∧ Wy q b v ∧ u = r :: v := by
  cases h with
  | top => simp at hl
  | step h1 h2 h3 => exact ⟨_, _, h1, h2, h3, rfl⟩
theorem gdy_way {H : Hp} {l : List Rf} {i : Nat} {Q : Qe} (hl : ∀ r ∈ l, There H r) (E : Exp H l i Q) (O : Od H i Q) (hk : ∀ r c e, Dp Q r e → r ∈ Q.keys → c ∈ kids H r → ∃ d, d ≤ e + 1 ∧ Dp Q c d) (hs : ∀ r ∈ l, (r, r) ∈ Q)
    {r : Rf} {q : Be} (F : Far H r q) {u : List Rf} {x : Rf} {d : Nat} (h : Gdy H q l u x d) :
    Wy Q x u.reverse ∧ (∀ y d', y ∈ l → (y, d') ∈ q → u.length - 1 + d ≤ d') ∧ (x, d) ∈ q ∧ 0 < u.length ∧ ∀ (y : Rf) (v : List Rf) (ix iy : Nat), Wy Q y v → v.length = u.length → (y, d) ∈ q → Pos Q x ix → Pos Q y iy → ix ≤ iy := by
  have top_of : ∀ {y : Rf} {v : List Rf}, Wy Q y v → v.length = 1 → (y, y) ∈ Q ∧ y ∈ l := by
    intro y v hv hl1
    cases hv with
    | top h1 =>
      obtain ⟨z, e1, e2⟩ := (Wy.top h1).last E
      obtain rfl : y = z := by simpa using e1
      exact ⟨h1, e2⟩
    | step _ _ h3 => exact absurd (List.length_eq_zero_iff.1 (by simpa using hl1)) h3.ne
  have inq : ∀ {y b : Rf}, (y, b) ∈ Q → ∃ j, Q[j]? = some (y, b) := fun h => List.mem_iff_getElem?.1 h
  induction h with
  | @top x d h1 h2 h3 h4 =>
    refine ⟨.top (hs x h1), fun y d' hy hd => by simpa using h3 y d' hy hd, h2, by simp, fun y v ix iy hv hlen hyd hx hy => ?_⟩
    obtain ⟨ht, hyl⟩ := top_of hv (by simpa using hlen)
    rcases Nat.lt_or_ge iy ix with hlt | hge
    · exfalso
      obtain ⟨jx, hjx⟩ := inq (hs x h1)
      obtain ⟨jy, hjy⟩ := inq ht
      have ex := Pos.unique E.nd ⟨x, hjx⟩ hx
      have ey := Pos.unique E.nd ⟨y, hjy⟩ hy
      subst ex ey
      have := ((O.od jy jx y y x x hlt hjy hjx).1 rfl).2
      have e : x.s = y.s := Int.le_antisymm (h4 y hyl hyd) this
      have := (hl x h1).one (hl y hyl) e
      subst this
      have := Pos.unique E.nd hx hy
      omega
    · exact hge
  | @step u x c d hg hc hcd h4 ih =>
    obtain ⟨i1, i2, i3, i4, i5⟩ := ih
    have hxk : x ∈ Q.keys := i1.len E.nd x (by have := i1.head; exact List.mem_of_mem_head? (by rw [this]; exact rfl))
    have hrl : u.reverse.length = u.length := List.length_reverse
    have hxd : Dp Q x (u.length - 1) := ⟨_, i1, by rw [hrl]; omega⟩
    -- any way from the beginning is long enough
    have far : ∀ {y : Rf} {v : List Rf} {e : Nat}, Wy Q y v → Wk H r y e → u.length - 1 + (d + 1) ≤ v.length - 1 + e := fun {y v e} hv hw => by
      obtain ⟨z, hz, hzw⟩ := Dp.wk E hv
      obtain ⟨d', a, b⟩ := F.le z _ (hzw.trans hw)
      have := i2 z d' hz b
      omega
    have hwc := F.wk c d hcd
    -- the parent of an object that is as far as c
    have parent : ∀ {y : Rf} {v : List Rf}, Wy Q y v → v.length = u.length + 1 → (y, d) ∈ q → ∃ b w, (y, b) ∈ Q ∧ b ≠ y ∧ Wy Q b w ∧ v = y :: w ∧ (b, d + 1) ∈ q := fun {y v} hv hlen hyd => by
      obtain ⟨b, w, p1, p2, p3, rfl⟩ := hv.par (by omega)
      obtain ⟨j, hj⟩ := inq p1
      have hyb : y ∈ kids H b := by
        rcases E.by' j _ hj with ⟨e, _⟩ | ⟨_, e, _⟩
        · exact absurd e p2
        · exact e
      have hwb : Wk H r b (d + 1) := .step hyb (F.wk y d hyd)
      obtain ⟨d', a, hb⟩ := F.le b _ hwb
      have := far p3 (F.wk b d' hb)
      have hlw : w.length = u.length := by simpa using hlen
      have : d' = d + 1 := by omega
      subst this
      exact ⟨b, w, p1, p2, p3, rfl, hb⟩
    obtain ⟨ix, hix⟩ := Pos.of_key hxk
    -- c's own way
    have hcway : ∃ v, Wy Q c v ∧ v.length = u.length + 1 := by
      obtain ⟨e, he, v, hv, hvl⟩ := hk x c _ hxd hxk hc
      have := far hv hwc
      exact ⟨v, hv, by omega⟩
    obtain ⟨v, hv, hvl⟩ := hcway
    obtain ⟨p, w, p1, p2, p3, rfl, p4⟩ := parent hv hvl hcd
    obtain ⟨jc, hjc⟩ := inq p1
    have hpx : p = x := by
      obtain ⟨ic, o1, o2, o3⟩ := O.pm jc c p hjc (fun e => p2 e.symm)
      have a := o3 ix x hix hc
      have b := i5 p w ix ic p3 (by simpa using hvl) p4 hix o2
      have : ic = ix := by omega
      subst this
      exact o2.inj hix
    subst hpx
    have hw : w = u.reverse := p3.unique E.nd i1
    subst hw
    refine ⟨by rw [List.reverse_append]; exact hv, fun y d' hy hd => ?_, hcd, by simp, fun y v ic iy hyv hlen hyd hcp hyp => ?_⟩
    · have := i2 y d' hy hd; simp; omega
    · obtain ⟨b, w', q1, q2, q3, rfl, q4⟩ := parent hyv (by simpa using hlen) hyd
      rcases Nat.lt_or_ge iy ic with hlt | hge
      · exfalso
        obtain ⟨jy, hjy⟩ := inq q1
        have ec := Pos.unique E.nd ⟨p, hjc⟩ hcp
        have ey := Pos.unique E.nd ⟨b, hjy⟩ hyp
        subst ec ey
        obtain ⟨ib, ip, a1, a2, a3, a4⟩ := (O.od jy jc y b c p hlt hjy hjc).2 (fun e => p2 e.symm) (fun e => q2 e.symm)
        have e1 := Pos.unique E.nd a2 hix
        subst e1
        have b1 := i5 b w' ip ib q3 (by simpa using hlen) q4 hix a1
        have e2 : ib = ip := by omega
        subst e2
        have e3 : b = p := a1.inj hix
        subst e3
        have hyb : y ∈ kids H b := by
          rcases E.by' jy _ hjy with ⟨e, _⟩ | ⟨_, e, _⟩
          · exact absurd e q2
          · exact e
        have s1 := a4 rfl
        have s2 := h4 y hyb hyd
        have := (mem_kids.1 hc).2.2.one (mem_kids.1 hyb).2.2 (Int.le_antisymm s2 s1)
        subst this
        have := Pos.unique E.nd hcp hyp
        omega
      · exact hge
theorem gdy_is {H : Hp} {l : List Rf} (hl : ∀ r ∈ l, There H r) {r : Rf} {q : Be} (F : Far H r q) {u : List Rf} (h : Gdy H q l u r 0) : r ∈ (explQ H l).keys ∧ u = wayQ (explQ H l) r := by
  have E : Exp H l H.T.n (explQ H l) := exp_all H l H.T.n
  obtain ⟨h1, _⟩ := gdy_way (Q := explQ H l) hl E (od_all H l H.T.n) (fun r c e he hr hc => explQ_kid hl he hr hc) (bfs_all H l H.T.n).st F h
  have hr : r ∈ (explQ H l).keys := h1.len E.nd r (by have := h1.head; exact List.mem_of_mem_head? (by rw [this]; exact rfl))
  exact ⟨hr, by rw [wayQ_of E hr h1, List.reverse_reverse]⟩
theorem Gdy.congr {H : Hp} {q : Be} {l m : List Rf} (h : ∀ r, r ∈ l ↔ r ∈ m) {u : List Rf} {x : Rf} {d : Nat} (hg : Gdy H q l u x d) : Gdy H q m u x d := by
  induction hg with
  | top h1 h2 h3 h4 => exact .top ((h _).1 h1) h2 (fun y d' hy => h3 y d' ((h y).2 hy)) (fun y hy => h4 y ((h y).2 hy))
  | step _ h2 h3 h4 ih => exact .step ih h2 h3 h4
/-! the nearest object of a list -/
def okW (want : Int) (d : Nat) : Prop := want = -1 ∨ (d : Int) = want
instance (want : Int) (d : Nat) : Decidable (okW want d) := by unfold okW; infer_instance
def farB (q : Be) (b : Int) : Nat := match q[b.toNat]? with
  | some x => x.2
  | none => 0
def nr1 (q : Be) (want : Int) (x : Rf) (b : Int) (k : Nat) : Int := match q[k]? with
  | some y => if y.1 = x ∧ okW want y.2 ∧ (b < 0 ∨ y.2 < farB q b) then k else b
  | none => b
def nrK (q : Be) (want : Int) (x : Rf) (b : Int) (k : Nat) : Int := (List.range k).foldl (nr1 q want x) b
def nrL (q : Be) (want : Int) (l : List Rf) : Int := l.foldl (fun b x => nrK q want x b q.length) (-1)
theorem nrK_succ (q : Be) (want : Int) (x : Rf) (b : Int) (k : Nat) : nrK q want x b (k + 1) = nr1 q want x (nrK q want x b k) k := by
  unfold nrK; rw [List.range_succ, List.foldl_append]; rfl
theorem nrL_snoc (q : Be) (want : Int) (l : List Rf) (x : Rf) : nrL q want (l ++ [x]) = nrK q want x (nrL q want l) q.length := by
  unfold nrL; rw [List.foldl_append]; rfl
theorem nr1_rng {q : Be} {want : Int} {x : Rf} {b : Int} {k : Nat} (hk : k < q.length) (h0 : -1 ≤ b) (h1 : b < q.length) : -1 ≤ nr1 q want x b k ∧ nr1 q want x b k < q.length := by
  unfold nr1
  split
  · split <;> omega
  · omega
theorem nrK_rng {q : Be} {want : Int} {x : Rf} {b : Int} (h0 : -1 ≤ b) (h1 : b < q.length) : ∀ k, k ≤ q.length → -1 ≤ nrK q want x b k ∧ nrK q want x b k < q.length
  | 0, _ => ⟨h0, h1⟩
  | k + 1, hk => by
    obtain ⟨a, b⟩ := nrK_rng h0 h1 k (by omega)
    rw [nrK_succ]
    exact nr1_rng (by omega) a b
theorem nrL_rng (q : Be) (want : Int) (hq : 0 < q.length) (l : List Rf) : -1 ≤ nrL q want l ∧ nrL q want l < q.length := by
  have key : ∀ (l : List Rf) (b : Int), -1 ≤ b → b < q.length → -1 ≤ l.foldl (fun b x => nrK q want x b q.length) b ∧ l.foldl (fun b x => nrK q want x b q.length) b < q.length := by
    intro l
    induction l with
    | nil => intro b h0 h1; exact ⟨h0, h1⟩
    | cons x l ih =>
      intro b h0 h1
      obtain ⟨c0, c1⟩ := nrK_rng (want := want) (x := x) h0 h1 q.length (Nat.le_refl _)
      exact ih _ c0 c1
  exact key l (-1) (by omega) (by omega)
theorem nrK_at {q : Be} (hn : (q.map (·.1)).Nodup) {want : Int} {x : Rf} {b : Int} {j d : Nat} (hj : q[j]? = some (x, d)) : ∀ k, nrK q want x b k = if j < k then nr1 q want x b j else b
  | 0 => rfl
  | k + 1 => by
    rw [nrK_succ, nrK_at hn hj k]
    by_cases hk : k = j
    · subst hk
      rw [if_neg (by omega), if_pos (by omega)]
    · have : ∀ b, nr1 q want x b k = b := fun b => by
        unfold nr1
        split
        · rename_i y hy
          rw [if_neg]
          rintro ⟨e, _⟩
          have h' : (q.map (·.1))[k]? = some x := by rw [List.getElem?_map, hy]; exact congrArg some e
          have k' : (q.map (·.1))[j]? = some x := by rw [List.getElem?_map, hj]; rfl
          exact hk ((List.getElem?_inj (List.getElem?_eq_some_iff.1 h').1 hn).1 (h'.trans k'.symm))
        · rfl
      rw [this]
      by_cases hjk : j < k
      · rw [if_pos hjk, if_pos (by omega)]
      · rw [if_neg hjk, if_neg (by omega)]
theorem nrK_no {q : Be} {want : Int} {x : Rf} {b : Int} (h : x ∉ q.map (·.1)) : ∀ k, nrK q want x b k = b
  | 0 => rfl
  | k + 1 => by
    rw [nrK_succ, nrK_no h k]
    unfold nr1
    split
    · rename_i y hy
      rw [if_neg]
      rintro ⟨e, _⟩
      exact h (List.mem_map.2 ⟨y, List.mem_of_getElem? hy, e⟩)
    · rfl
def Near (q : Be) (want : Int) (pre : List Rf) (b : Int) : Prop :=
  (b = -1 ∧ ∀ x ∈ pre, ∀ d, (x, d) ∈ q → ¬ okW want d) ∨
  ∃ (k : Nat) (x : Rf) (d : Nat), b = k ∧ q[k]? = some (x, d) ∧ x ∈ pre ∧ okW want d ∧ ∀ y ∈ pre, ∀ d', (y, d') ∈ q → okW want d' → d ≤ d' ∧ (d' = d → x.s ≤ y.s)
theorem near_all {q : Be} (hn : (q.map (·.1)).Nodup) (want : Int) : ∀ (suf pre : List Rf) (b : Int), BySlot (pre ++ suf) → Near q want pre b → Near q want (pre ++ suf) (suf.foldl (fun b x => nrK q want x b q.length) b)
  | [], pre, b, _, h => by simpa using h
  | x :: suf, pre, b, hs, h => by
    rw [show pre ++ x :: suf = (pre ++ [x]) ++ suf by simp] at hs ⊢
    rw [List.foldl_cons]
    refine near_all hn want suf (pre ++ [x]) _ hs ?_
    have hle : ∀ y ∈ pre, y.s ≤ x.s := fun y hy => (List.pairwise_append.1 (List.pairwise_append.1 hs).1).2.2 y hy x (by simp)
    have uq : ∀ {y : Rf} {d e : Nat}, (y, d) ∈ q → (y, e) ∈ q → d = e := by
      intro y d e h1 h2
      obtain ⟨i, hi⟩ := List.mem_iff_getElem?.1 h1
      obtain ⟨j, hj⟩ := List.mem_iff_getElem?.1 h2
      have h' : (q.map (·.1))[i]? = some y := by rw [List.getElem?_map, hi]; rfl
      have k' : (q.map (·.1))[j]? = some y := by rw [List.getElem?_map, hj]; rfl
      have := (List.getElem?_inj (List.getElem?_eq_some_iff.1 h').1 hn).1 (h'.trans k'.symm)
      subst this
      rw [hi] at hj
      exact (Prod.mk.inj (Option.some.inj hj)).2
    by_cases hx : x ∈ q.map (·.1)
    · obtain ⟨⟨x', d⟩, hm, e⟩ := List.mem_map.1 hx
      dsimp only at e
      subst e
      obtain ⟨j, hj⟩ := List.mem_iff_getElem?.1 hm
      rw [nrK_at hn hj, if_pos (List.getElem?_eq_some_iff.1 hj).1]
      have e1 : nr1 q want x' b j = if okW want d ∧ (b < 0 ∨ d < farB q b) then (j : Int) else b := by
        unfold nr1; rw [hj]; simp
      rw [e1]
      by_cases ho : okW want d
      · rcases h with ⟨rfl, h⟩ | ⟨k, y, e, rfl, hk, hy, hoy, h⟩
        · rw [if_pos ⟨ho, .inl (by omega)⟩]
          refine .inr ⟨j, x', d, rfl, hj, by simp, ho, fun y hy d' hd hod => ?_⟩
          rcases List.mem_append.1 hy with hy | hy
          · exact absurd hod (h y hy d' hd)
          · rw [List.mem_singleton.1 hy] at hd ⊢
            rw [uq hm hd]
            exact ⟨Nat.le_refl _, fun _ => Int.le_refl _⟩
        · have ef : farB q (k : Int) = e := by unfold farB; rw [Int.toNat_natCast, hk]
          rw [ef]
          by_cases hd : d < e
          · rw [if_pos ⟨ho, .inr hd⟩]
            refine .inr ⟨j, x', d, rfl, hj, by simp, ho, fun z hz d' hdz hod => ?_⟩
            rcases List.mem_append.1 hz with hz | hz
            · have := (h z hz d' hdz hod).1
              exact ⟨by omega, fun _ => by omega⟩
            · rw [List.mem_singleton.1 hz] at hdz ⊢
              rw [uq hm hdz]
              exact ⟨Nat.le_refl _, fun _ => Int.le_refl _⟩
          · rw [if_neg (by rintro ⟨_, h | h⟩ <;> omega)]
            refine .inr ⟨k, y, e, rfl, hk, by simp [hy], hoy, fun z hz d' hdz hod => ?_⟩
            rcases List.mem_append.1 hz with hz | hz
            · exact h z hz d' hdz hod
            · rw [List.mem_singleton.1 hz] at hdz ⊢
              rw [← uq hm hdz]
              exact ⟨by omega, fun _ => hle y hy⟩
      · rw [if_neg (fun h => ho h.1)]
        have no : ∀ z ∈ [x'], ∀ d', (z, d') ∈ q → ¬ okW want d' := fun z hz d' hd => by
          rw [List.mem_singleton.1 hz] at hd; rw [← uq hm hd]; exact ho
        rcases h with ⟨rfl, h⟩ | ⟨k, y, e, rfl, hk, hy, hoy, h⟩
        · refine .inl ⟨rfl, fun z hz => ?_⟩
          rcases List.mem_append.1 hz with hz | hz
          · exact h z hz
          · exact no z hz
        · refine .inr ⟨k, y, e, rfl, hk, by simp [hy], hoy, fun z hz d' hdz hod => ?_⟩
          rcases List.mem_append.1 hz with hz | hz
          · exact h z hz d' hdz hod
          · exact absurd hod (no z hz d' hdz)
    · rw [nrK_no hx]
      have no : ∀ z ∈ [x], ∀ d', (z, d') ∈ q → ¬ okW want d' := fun z hz d' hd => by
        rw [List.mem_singleton.1 hz] at hd; exact absurd (List.mem_map.2 ⟨_, hd, rfl⟩) hx
      rcases h with ⟨rfl, h⟩ | ⟨k, y, e, rfl, hk, hy, hoy, h⟩
      · refine .inl ⟨rfl, fun z hz => ?_⟩
        rcases List.mem_append.1 hz with hz | hz
        · exact h z hz
        · exact no z hz
      · refine .inr ⟨k, y, e, rfl, hk, by simp [hy], hoy, fun z hz d' hdz hod => ?_⟩
        rcases List.mem_append.1 hz with hz | hz
        · exact h z hz d' hdz hod
        · exact absurd hod (no z hz d' hdz)
theorem near_of {q : Be} (hn : (q.map (·.1)).Nodup) (want : Int) {l : List Rf} (hs : BySlot l) {x : Rf} {d : Nat} (hx : x ∈ l) (hd : (x, d) ∈ q) (ho : okW want d) :
    ∃ (k : Nat) (y : Rf) (e : Nat), nrL q want l = k ∧ q[k]? = some (y, e) ∧ y ∈ l ∧ okW want e ∧ ∀ z ∈ l, ∀ d', (z, d') ∈ q → okW want d' → e ≤ d' ∧ (d' = e → y.s ≤ z.s) := by
  rcases near_all hn want l [] (-1) (by simpa using hs) (.inl ⟨rfl, by simp⟩) with ⟨_, h⟩ | h
  · exact absurd ho (h x (by simpa using hx) d hd)
  · simpa [nrL] using h
theorem gdy_top {H : Hp} {r : Rf} {q : Be} (F : Far H r q) {l : List Rf} (hs : BySlot l) {x : Rf} {d : Nat} (hx : x ∈ l) (hd : (x, d) ∈ q) :
    ∃ (k : Nat) (y : Rf) (e : Nat), nrL q (-1) l = k ∧ q[k]? = some (y, e) ∧ Gdy H q l [y] y e := by
  obtain ⟨k, y, e, h1, h2, h3, _, h5⟩ := near_of F.nd (-1) hs hx hd (.inl rfl)
  exact ⟨k, y, e, h1, h2, .top h3 (List.mem_of_getElem? h2) (fun z d' hz hd' => (h5 z hz d' hd' (.inl rfl)).1) (fun z hz hd' => (h5 z hz e hd' (.inl rfl)).2 rfl)⟩
theorem gdy_next {H : Hp} {r : Rf} {q : Be} (F : Far H r q) {l u : List Rf} {x : Rf} {d : Nat} (hg : Gdy H q l u x (d + 1)) (hx : (x, d + 1) ∈ q) :
    ∃ (k : Nat) (y : Rf), nrL q (d : Nat) (srtd H.T (kids H x)) = k ∧ q[k]? = some (y, d) ∧ Gdy H q l (u ++ [y]) y d := by
  have hw := F.wk x _ hx
  obtain ⟨c, hc, hcd⟩ : ∃ c, c ∈ kids H x ∧ (c, d) ∈ q := by
    cases hw with
    | step hc hw =>
      obtain ⟨d', a, b⟩ := F.le _ _ hw
      have := F.min hx (.step hc (F.wk _ _ b))
      have : d' = d := by omega
      subst this
      exact ⟨_, hc, b⟩
  have hcs : c ∈ srtd H.T (kids H x) := mem_srtd.2 ⟨hc, (mem_kids.1 hc).2.2⟩
  obtain ⟨k, y, e, h1, h2, h3, h4, h5⟩ := near_of F.nd (d : Nat) (srtd_bySlot _ _) hcs hcd (.inr rfl)
  have he : e = d := by rcases h4 with h | h <;> omega
  subst he
  exact ⟨k, y, h1, h2, .step hg (mem_srtd.1 h3).1 (List.mem_of_getElem? h2) (fun z hz hd' => (h5 z (mem_srtd.2 ⟨hz, (mem_kids.1 hz).2.2⟩) e hd' (.inr rfl)).2 rfl)⟩
theorem far_orig {H : Hp} {l : List Rf} (hl : ∀ r ∈ l, There H r) {r : Rf} {q : Be} (F : Far H r q) (hr : r ∈ (explQ H l).keys) : ∃ x d, x ∈ l ∧ (x, d) ∈ q := by
  have E : Exp H l H.T.n (explQ H l) := exp_all H l H.T.n
  obtain ⟨u, hu⟩ := Wy.of_key E hr
  obtain ⟨z, hz, hw⟩ := Dp.wk E hu
  obtain ⟨d, _, h⟩ := F.le z _ hw
  exact ⟨z, d, hz, h⟩
end Go.Proofs.YtkpnmajocgcccaaGreat
