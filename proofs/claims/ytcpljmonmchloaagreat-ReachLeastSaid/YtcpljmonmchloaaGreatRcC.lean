/- Package reach, plain: ways, and their lengths. -/
import Derived.Test.YtcpljmonmchloaaGreatRcA
namespace Go.Proofs.YtcpljmonmchloaaGreat
set_option linter.unusedVariables false
set_option linter.unusedSimpArgs false

theorem key_unique : ∀ {q : Qe}, q.keys.Nodup → ∀ {x y : Rf × Rf}, x ∈ q → y ∈ q → x.1 = y.1 → x = y
  | [], _, _, _, hx, _, _ => by cases hx
  | z :: q, hn, x, y, hx, hy, e => by
    obtain ⟨h1, h2⟩ := List.nodup_cons.1 (show (z.1 :: Qe.keys q).Nodup from hn)
    rcases List.mem_cons.1 hx with ex | hx1
    · rcases List.mem_cons.1 hy with ey | hy1
      · rw [ex, ey]
      · exact absurd (show z.1 ∈ Qe.keys q from List.mem_map.2 ⟨y, hy1, by rw [← e, ex]⟩) h1
    · rcases List.mem_cons.1 hy with ey | hy1
      · exact absurd (show z.1 ∈ Qe.keys q from List.mem_map.2 ⟨x, hx1, by rw [e, ey]⟩) h1
      · exact key_unique h2 hx1 hy1 e
def par (q : Qe) (r : Rf) : Rf := match q.find? (fun x => decide (x.1 = r)) with
  | some x => x.2
  | none => Rf.no
theorem par_of {q : Qe} (hn : q.keys.Nodup) {r b : Rf} (h : (r, b) ∈ q) : par q r = b := by
  unfold par
  rcases hf : q.find? (fun x => decide (x.1 = r)) with _ | x
  · rw [List.find?_eq_none] at hf
    have := hf (r, b) h
    simp at this
  · have h1 := List.find?_some hf
    have h2 := List.mem_of_find?_eq_some hf
    rw [hf]
    show x.2 = b
    rw [key_unique hn h2 h (by simpa using h1)]
theorem par_mem {q : Qe} (hn : q.keys.Nodup) {r : Rf} (h : r ∈ q.keys) : (r, par q r) ∈ q := by
  obtain ⟨⟨a, b⟩, hx, rfl⟩ := List.mem_map.1 h
  rw [par_of hn hx]; exact hx
inductive Wy (q : Qe) : Rf → List Rf → Prop
  | top {r : Rf} : (r, r) ∈ q → Wy q r [r]
  | step {r b : Rf} {u : List Rf} : (r, b) ∈ q → b ≠ r → Wy q b u → Wy q r (r :: u)
theorem Wy.unique {q : Qe} (hn : q.keys.Nodup) {r : Rf} {u v : List Rf} (h : Wy q r u) (k : Wy q r v) : u = v := by
  induction h generalizing v with
  | top h1 =>
    cases k with
    | top _ => rfl
    | step h2 h3 _ => exact absurd ((par_of hn h2).symm.trans (par_of hn h1)) h3
  | step h1 h2 h3 ih =>
    cases k with
    | top h4 => exact absurd ((par_of hn h1).symm.trans (par_of hn h4)) h2
    | step h4 h5 h6 =>
      obtain rfl := (par_of hn h1).symm.trans (par_of hn h4)
      rw [ih h6]
theorem Wy.mono {q q' : Qe} (hq : ∀ x ∈ q, x ∈ q') {r : Rf} {u : List Rf} (h : Wy q r u) : Wy q' r u := by
  induction h with
  | top h1 => exact .top (hq _ h1)
  | step h1 h2 _ ih => exact .step (hq _ h1) h2 ih
theorem Wy.ne {q : Qe} {r : Rf} {u : List Rf} (h : Wy q r u) : u ≠ [] := by cases h <;> simp
theorem Wy.head {q : Qe} {r : Rf} {u : List Rf} (h : Wy q r u) : u.head? = some r := by cases h <;> rfl
theorem Wy.ex {H : Hp} {l : List Rf} {i : Nat} {q : Qe} (h : Exp H l i q) : ∀ (j : Nat) (x : Rf × Rf), q[j]? = some x → ∃ u, Wy q x.1 u := by
  intro j
  induction j using Nat.strongRecOn with
  | _ j ih =>
    rintro ⟨r, b⟩ hx
    rcases h.by' j _ hx with ⟨e, _⟩ | ⟨e, _, k, y, hk, _, hy, hyb⟩
    · dsimp only at e; subst e
      exact ⟨_, .top (List.mem_of_getElem? hx)⟩
    · obtain ⟨u, hu⟩ := ih k hk y hy
      dsimp only at e hyb
      rw [hyb] at hu
      exact ⟨_, .step (List.mem_of_getElem? hx) e hu⟩
theorem Wy.of_key {H : Hp} {l : List Rf} {i : Nat} {q : Qe} (h : Exp H l i q) {r : Rf} (hr : r ∈ q.keys) : ∃ u, Wy q r u := by
  obtain ⟨x, hx, rfl⟩ := List.mem_map.1 hr
  obtain ⟨j, hj⟩ := List.mem_iff_getElem?.1 hx
  exact Wy.ex h j x hj
theorem Wy.kid {H : Hp} {l : List Rf} {i : Nat} {q : Qe} (h : Exp H l i q) {r : Rf} {u : List Rf} (hu : Wy q r u) : ∀ k x y, u[k]? = some x → u[k + 1]? = some y → x ∈ kids H y := by
  induction hu with
  | top _ => intro k x y _ h2; simp at h2
  | @step r b u h1 h2 h3 ih =>
    intro k x y hx hy
    cases k with
    | zero =>
      simp at hx hy
      subst hx
      have := h3.head
      rw [List.head?_eq_getElem?, hy] at this
      obtain rfl := Option.some.inj this
      obtain ⟨j, hj⟩ := List.mem_iff_getElem?.1 h1
      rcases h.by' j _ hj with ⟨e, _⟩ | ⟨_, e, _⟩
      · exact absurd e h2
      · exact e
    | succ k => exact ih k x y (by simpa using hx) (by simpa using hy)
theorem Wy.last {H : Hp} {l : List Rf} {i : Nat} {q : Qe} (h : Exp H l i q) {r : Rf} {u : List Rf} (hu : Wy q r u) : ∃ x, u.getLast? = some x ∧ x ∈ l := by
  induction hu with
  | @top r h1 =>
    obtain ⟨j, hj⟩ := List.mem_iff_getElem?.1 h1
    rcases h.by' j _ hj with ⟨_, e⟩ | ⟨e, _⟩
    · exact ⟨r, rfl, e⟩
    · exact absurd rfl e
  | @step r b u h1 h2 h3 ih =>
    obtain ⟨x, e1, e2⟩ := ih
    refine ⟨x, ?_, e2⟩
    cases u with
    | nil => exact absurd rfl h3.ne
    | cons y u => rw [List.getLast?_cons_cons]; exact e1
theorem Wy.drop {q : Qe} {r : Rf} {u : List Rf} (hu : Wy q r u) : ∀ k x, u[k]? = some x → Wy q x (u.drop k) := by
  induction hu with
  | top h1 =>
    intro k x hx
    cases k with
    | zero => obtain rfl := Option.some.inj hx; exact .top h1
    | succ k => simp at hx
  | @step r b u h1 h2 h3 ih =>
    intro k x hx
    cases k with
    | zero => obtain rfl := Option.some.inj hx; exact .step h1 h2 h3
    | succ k => exact ih k x (by simpa using hx)
theorem Wy.len {q : Qe} (hn : q.keys.Nodup) {r : Rf} {u : List Rf} (hu : Wy q r u) : (∀ x ∈ u, x ∈ q.keys) := by
  induction hu with
  | top h1 => intro x hx; rw [List.mem_singleton.1 hx]; exact List.mem_map.2 ⟨_, h1, rfl⟩
  | step h1 h2 h3 ih =>
    intro x hx
    rcases List.mem_cons.1 hx with rfl | hx
    · exact List.mem_map.2 ⟨_, h1, rfl⟩
    · exact ih x hx
def Dp (q : Qe) (r : Rf) (d : Nat) : Prop := ∃ u, Wy q r u ∧ u.length = d + 1
theorem Dp.unique {q : Qe} (hn : q.keys.Nodup) {r : Rf} {d e : Nat} (h : Dp q r d) (k : Dp q r e) : d = e := by
  obtain ⟨u, h1, h2⟩ := h
  obtain ⟨v, k1, k2⟩ := k
  rw [h1.unique hn k1] at h2
  omega
theorem Dp.mono {q q' : Qe} (hq : ∀ x ∈ q, x ∈ q') {r : Rf} {d : Nat} (h : Dp q r d) : Dp q' r d := by
  obtain ⟨u, h1, h2⟩ := h
  exact ⟨u, h1.mono hq, h2⟩
theorem Dp.ex {H : Hp} {l : List Rf} {i : Nat} {q : Qe} (h : Exp H l i q) {r : Rf} (hr : r ∈ q.keys) : ∃ d, Dp q r d := by
  obtain ⟨u, hu⟩ := Wy.of_key h hr
  cases u with
  | nil => exact absurd rfl hu.ne
  | cons x u => exact ⟨u.length, _, hu, rfl⟩
structure Bf' (q : Qe) (e : Nat) : Prop where
  mono : ∀ (j j' : Nat) (x x' : Rf × Rf) (d d' : Nat), j ≤ j' → q[j]? = some x → q[j']? = some x' → Dp q x.1 d → Dp q x'.1 d' → d ≤ d'
  le : ∀ (x : Rf × Rf) (d : Nat), x ∈ q → Dp q x.1 d → d ≤ e + 1
theorem bf_addqs {H : Hp} {e : Nat} {y : Rf × Rf} : ∀ (m : List Rf) (q : Qe), q.keys.Nodup → (∀ x ∈ q, ∃ d, Dp q x.1 d) → Bf' q e → y ∈ q → Dp q y.1 e →
    (addqs q m y.1).keys.Nodup ∧ (∀ x ∈ addqs q m y.1, ∃ d, Dp (addqs q m y.1) x.1 d) ∧ Bf' (addqs q m y.1) e ∧ ∀ c ∈ m, ∃ d, d ≤ e + 1 ∧ Dp (addqs q m y.1) c d
  | [], q, hn, hd, hb, hy, he => ⟨hn, hd, hb, fun c hc => by cases hc⟩
  | c :: m, q, hn, hd, hb, hy, he => by
    obtain ⟨t, ht⟩ := addq_pre q c y.1
    have hsub : ∀ x ∈ q, x ∈ addq q c y.1 := fun x hx => by rw [ht]; exact List.mem_append.2 (.inl hx)
    have hn' := nodup_addq hn c y.1
    have he' := he.mono hsub
    have hnew : c ∉ q.keys → Dp (addq q c y.1) c (e + 1) := fun hc => by
      have hm : (c, y.1) ∈ addq q c y.1 := by unfold addq; rw [if_neg hc]; simp
      obtain ⟨u, h1, h2⟩ := he'
      refine ⟨c :: u, .step hm (fun h => hc ?_) h1, by simp [h2]⟩
      rw [← h]; exact List.mem_map.2 ⟨y, hy, rfl⟩
    have hold : ∀ x ∈ q, ∀ d, Dp (addq q c y.1) x.1 d → Dp q x.1 d := fun x hx d h => by
      obtain ⟨d', h'⟩ := hd x hx
      rw [h.unique hn' (h'.mono hsub)]; exact h'
    have hd' : ∀ x ∈ addq q c y.1, ∃ d, Dp (addq q c y.1) x.1 d := fun x hx => by
      rcases mem_addq hx with hx | ⟨rfl, hc⟩
      · obtain ⟨d, h⟩ := hd x hx; exact ⟨d, h.mono hsub⟩
      · exact ⟨_, hnew hc⟩
    have hb' : Bf' (addq q c y.1) e := by
      refine ⟨fun j j' x x' d d' hj hx hx' h h' => ?_, fun x d hx h => ?_⟩
      · rcases addq_get hx with gx | ⟨ej, rfl, hc⟩
        · have gm := List.mem_of_getElem? gx
          rcases addq_get hx' with gx' | ⟨_, rfl, hc⟩
          · exact hb.mono j j' x x' d d' hj gx gx' (hold x gm d h) (hold x' (List.mem_of_getElem? gx') d' h')
          · have := hb.le x d gm (hold x gm d h)
            rw [h'.unique hn' (hnew hc)]; exact this
        · rcases addq_get hx' with gx' | ⟨_, rfl, _⟩
          · have := (List.getElem?_eq_some_iff.1 gx').1; omega
          · exact Nat.le_of_eq (h.unique hn' h')
      · rcases mem_addq hx with hx | ⟨rfl, hc⟩
        · exact hb.le x d hx (hold x hx d h)
        · rw [h.unique hn' (hnew hc)]; exact Nat.le_refl _
    obtain ⟨k1, k2, k3, k4⟩ := bf_addqs (H := H) m (addq q c y.1) hn' hd' hb' (hsub _ hy) he'
    refine ⟨k1, k2, k3, fun x hx => ?_⟩
    rcases List.mem_cons.1 hx with rfl | hx
    · obtain ⟨t2, ht2⟩ := addqs_pre (addq q x y.1) m y.1
      have hs2 : ∀ z ∈ addq q x y.1, z ∈ addqs q (x :: m) y.1 := fun z hz => by
        show z ∈ addqs (addq q x y.1) m y.1
        rw [ht2]; exact List.mem_append.2 (.inl hz)
      by_cases hc : x ∈ q.keys
      · obtain ⟨z, hz, rfl⟩ := List.mem_map.1 hc
        obtain ⟨d, hdz⟩ := hd z hz
        exact ⟨d, hb.le z d hz hdz, (hdz.mono hsub).mono hs2⟩
      · exact ⟨e + 1, Nat.le_refl _, (hnew hc).mono hs2⟩
    · exact k4 x hx
structure Bfs (H : Hp) (l : List Rf) (i : Nat) (q : Qe) : Prop where
  mono : ∀ (j j' : Nat) (x x' : Rf × Rf) (d d' : Nat), j ≤ j' → q[j]? = some x → q[j']? = some x' → Dp q x.1 d → Dp q x'.1 d' → d ≤ d'
  le : ∀ (y : Rf × Rf) (e : Nat) (x : Rf × Rf) (d : Nat), q[i]? = some y → Dp q y.1 e → x ∈ q → Dp q x.1 d → d ≤ e + 1
  kid : ∀ (k : Nat) (y : Rf × Rf) (e : Nat) (c : Rf), k < i → q[k]? = some y → Dp q y.1 e → c ∈ kids H y.1 → ∃ d, d ≤ e + 1 ∧ Dp q c d
  st : ∀ r ∈ l, (r, r) ∈ q
theorem bfs_start (H : Hp) (l : List Rf) : Bfs H l 0 (startq (srt l)) := by
  have E := exp_start H l
  have all0 : ∀ x ∈ startq (srt l), Dp (startq (srt l)) x.1 0 := fun x hx => by
    obtain ⟨j, hj⟩ := List.mem_iff_getElem?.1 hx
    rcases E.by' j x hj with ⟨e, _⟩ | ⟨_, _, k, _, _, hk, _⟩
    · refine ⟨[x.1], .top ?_, rfl⟩
      rw [show (x.1, x.1) = x from Prod.ext rfl e.symm]; exact hx
    · omega
  refine ⟨fun j j' x x' d d' _ hx hx' h h' => ?_, fun y e x d hy he hx h => ?_, fun k y e c hk => by omega, fun r hr => ?_⟩
  · rw [h.unique E.nd (all0 x (List.mem_of_getElem? hx))]; exact Nat.zero_le _
  · rw [h.unique E.nd (all0 x hx)]; exact Nat.zero_le _
  · obtain ⟨x, hx, rfl⟩ := List.mem_map.1 (E.st r hr)
    obtain ⟨j, hj⟩ := List.mem_iff_getElem?.1 hx
    rcases E.by' j x hj with ⟨e, _⟩ | ⟨_, _, k, _, _, hk, _⟩
    · rw [show (x.1, x.1) = x from Prod.ext rfl e.symm]; exact hx
    · omega
theorem bfs_step {H : Hp} {l : List Rf} {i : Nat} {q : Qe} (E : Exp H l i q) (h : Bfs H l i q) : Bfs H l (i + 1) (exq H q i) := by
  have E' := exp_step E
  rcases hy : q[i]? with _ | y
  · have e : exq H q i = q := by unfold exq; rw [hy]
    rw [e] at E' ⊢
    refine ⟨h.mono, fun z e x d hz => ?_, fun k z e c hk hz => ?_, h.st⟩
    · have h1 := (List.getElem?_eq_some_iff.1 hz).1
      have h2 := List.getElem?_eq_none_iff.1 hy
      omega
    · exact h.kid k z e c (by
        have h1 := (List.getElem?_eq_some_iff.1 hz).1
        have h2 := List.getElem?_eq_none_iff.1 hy
        omega) hz
  · have e1 : exq H q i = addqs q (srt (kids H y.1)) y.1 := by unfold exq; rw [hy]
    have hym := List.mem_of_getElem? hy
    obtain ⟨e, he⟩ := Dp.ex E (List.mem_map.2 ⟨y, hym, rfl⟩)
    obtain ⟨k1, k2, k3, k4⟩ := bf_addqs (H := H) (srt (kids H y.1)) q E.nd (fun x hx => Dp.ex E (List.mem_map.2 ⟨x, hx, rfl⟩)) ⟨h.mono, fun x d hx hd => h.le y e x d hy he hx hd⟩ hym he
    obtain ⟨t, ht⟩ := addqs_pre q (srt (kids H y.1)) y.1
    rw [← e1] at k1 k2 k3 k4 ht
    have hsub : ∀ x ∈ q, x ∈ exq H q i := fun x hx => by rw [ht]; exact List.mem_append.2 (.inl hx)
    have hy' : (exq H q i)[i]? = some y := pre_get ht hy
    refine ⟨k3.mono, fun z f x d hz hf hx hd => ?_, fun k z f c hk hz hf hc => ?_, fun r hr => hsub _ (h.st r hr)⟩
    · have h1 := k3.mono i (i + 1) y z e f (Nat.le_succ _) hy' hz (he.mono hsub) hf
      have h2 := k3.le x d hx hd
      omega
    · rcases Nat.lt_succ_iff_lt_or_eq.1 hk with hk | rfl
      · have hkl : k < q.length := Nat.lt_trans hk (List.getElem?_eq_some_iff.1 hy).1
        have hz' : q[k]? = some z := by rw [ht, List.getElem?_append_left hkl] at hz; exact hz
        obtain ⟨f', hf'⟩ := Dp.ex E (List.mem_map.2 ⟨z, List.mem_of_getElem? hz', rfl⟩)
        obtain rfl := hf.unique k1 (hf'.mono hsub)
        obtain ⟨d, hd1, hd2⟩ := h.kid k z f c hk hz' hf' hc
        exact ⟨d, hd1, hd2.mono hsub⟩
      · obtain rfl : z = y := by rw [hy'] at hz; exact (Option.some.inj hz).symm
        obtain rfl := hf.unique k1 (he.mono hsub)
        exact k4 c (mem_srt.2 hc)
theorem bfs_all (H : Hp) (l : List Rf) : ∀ i, Bfs H l i (expl H l i)
  | 0 => bfs_start H l
  | i + 1 => bfs_step (exp_all H l i) (bfs_all H l i)
theorem Wy.le {H : Hp} {l : List Rf} {i : Nat} {q : Qe} (h : Exp H l i q) : ∀ (j : Nat) (x : Rf × Rf), q[j]? = some x → ∀ u, Wy q x.1 u → u.length ≤ j + 1 := by
  intro j
  induction j using Nat.strongRecOn with
  | _ j ih =>
    rintro ⟨r, b⟩ hx u hu
    cases hu with
    | top _ => simp
    | @step _ b' u h1 h2 h3 =>
      obtain rfl : b' = b := by
        have := key_unique h.nd h1 (List.mem_of_getElem? hx) rfl
        injection this
      rcases h.by' j _ hx with ⟨e, _⟩ | ⟨e, _, k, y, hk, _, hy, hyb⟩
      · exact absurd e h2
      · dsimp only at hyb
        rw [← hyb] at h3
        have := ih k hk y hy u h3
        simp; omega
def upf (q : Qe) : Nat → Rf → List Rf
  | 0, r => [r]
  | n + 1, r => if par q r = r then [r] else r :: upf q n (par q r)
theorem upf_of {q : Qe} (hn : q.keys.Nodup) {r : Rf} {u : List Rf} (h : Wy q r u) : ∀ n, u.length ≤ n → upf q n r = u := by
  induction h with
  | top h1 =>
    intro n hl
    cases n with
    | zero => rfl
    | succ n => unfold upf; rw [if_pos (par_of hn h1)]
  | @step r b u h1 h2 h3 ih =>
    intro n hl
    cases n with
    | zero => simp at hl
    | succ n =>
      unfold upf
      rw [par_of hn h1, if_neg h2, ih n (by simpa using hl)]
def wayQ (q : Qe) (r : Rf) : List Rf := if r ∈ q.keys then (upf q q.length r).reverse else []
theorem wayQ_of {H : Hp} {l : List Rf} {i : Nat} {q : Qe} (h : Exp H l i q) {r : Rf} {u : List Rf} (hr : r ∈ q.keys) (hu : Wy q r u) : wayQ q r = u.reverse := by
  obtain ⟨x, hx, rfl⟩ := List.mem_map.1 hr
  obtain ⟨j, hj⟩ := List.mem_iff_getElem?.1 hx
  unfold wayQ
  rw [if_pos (show x.1 ∈ q.keys from List.mem_map.2 ⟨x, hx, rfl⟩), upf_of h.nd hu _ (by
    have := Wy.le h j x hj u hu
    have := (List.getElem?_eq_some_iff.1 hj).1
    omega)]
theorem explQ_kid {H : Hp} {l : List Rf} (hl : ∀ r ∈ l, There H r) {r c : Rf} {e : Nat} (he : Dp (explQ H l) r e) (hr : r ∈ (explQ H l).keys) (hc : c ∈ kids H r) : ∃ d, d ≤ e + 1 ∧ Dp (explQ H l) c d := by
  obtain ⟨x, hx, rfl⟩ := List.mem_map.1 hr
  obtain ⟨j, hj⟩ := List.mem_iff_getElem?.1 hx
  exact (bfs_all H l H.T.n).kid j x e c (Nat.lt_of_lt_of_le (List.getElem?_eq_some_iff.1 hj).1 (expl_len hl _)) hj he hc
theorem explQ_zero {H : Hp} {l : List Rf} {r : Rf} {d : Nat} (h : Dp (explQ H l) r d) : d = 0 ↔ r ∈ l := by
  have E := exp_all H l H.T.n
  have B := bfs_all H l H.T.n
  constructor
  · rintro rfl
    obtain ⟨u, h1, h2⟩ := h
    obtain ⟨x, e1, e2⟩ := h1.last E
    have := h1.head
    match u, h2 with
    | [y], _ =>
      simp at e1 this
      rw [← this, e1]; exact e2
  · intro hr
    exact h.unique E.nd ⟨[r], .top (B.st r hr), rfl⟩
end Go.Proofs.YtcpljmonmchloaaGreat
