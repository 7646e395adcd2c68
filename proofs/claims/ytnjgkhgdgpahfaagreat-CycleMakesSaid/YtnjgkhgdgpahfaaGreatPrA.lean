/- Plain laws of marking: what is lost stays apart: nothing leads to it, and it is not marked. -/
import Derived.Test.YtnjgkhgdgpahfaaGreatCyA
import Derived.Test.YtnjgkhgdgpahfaaGreatKqA
namespace Go.Proofs.YtnjgkhgdgpahfaaGreat
open Go.RowKit
set_option linter.unusedVariables false
set_option linter.unusedSimpArgs false

structure Nx (L : Nat → Prop) (G : Nat → Int) (D : Nat → Bool) (A : Ar) : Prop where
  here : ∀ j, L j → j < A.H.T.n ∧ A.H.T.st j = 1 ∧ A.H.T.gn j = G j ∧ (A.H.ob j).h = D j
  root : ∀ m i, m < A.many → i < (A.rt m).n → ¬ L ((A.rt m).f i).s.toNat
  var : ∀ i, i < 8 → (A.gl i).nz = true → ¬ L (A.gl i).s.toNat
  edge : ∀ i r, ¬ L i → Edge A.H i r → There A.H r → ¬ L r.s.toNat
structure Cl (L : Nat → Prop) (G : Nat → Int) (D : Nat → Bool) (s : Sys) : Prop where
  nx : Nx L G D s.A
  got : ∀ j, L j → ¬ Got s.M j
variable {L : Nat → Prop} {G : Nat → Int} {D : Nat → Bool}

theorem Nx.rch {A : Ar} (h : Nx L G D A) (nd : ∀ r, Rch A r → There A.H r) : ∀ r, Rch A r → ¬ L r.s.toNat := by
  intro r hr
  induction hr with
  | @root m i h1 h2 => exact h.root m i h1 h2
  | @var i h1 h2 => exact h.var i h1 h2
  | @field r q hr ht he ih => exact h.edge _ _ ih he (nd q (.field hr ht he))
theorem Cl.rch {s : Sys} (h : Cl L G D s) (hs : Safe s) : ∀ r, Rch s.A r → ¬ L r.s.toNat := h.nx.rch hs.nd
theorem Cl.move {s t : Sys} (h : Cl L G D s) (hh : ∀ j, L j → t.A.H.T.n = s.A.H.T.n ∧ t.A.H.T.st j = s.A.H.T.st j ∧ t.A.H.T.gn j = s.A.H.T.gn j ∧ (t.A.H.ob j).h = (s.A.H.ob j).h)
    (hr : ∀ m i, m < t.A.many → i < (t.A.rt m).n → (∃ m' j, m' < s.A.many ∧ j < (s.A.rt m').n ∧ (t.A.rt m).f i = (s.A.rt m').f j) ∨ ¬ L ((t.A.rt m).f i).s.toNat)
    (hv : ∀ i, i < 8 → (t.A.gl i).nz = true → t.A.gl i = s.A.gl i ∨ ¬ L (t.A.gl i).s.toNat) (he : ∀ i r, ¬ L i → Edge t.A.H i r → Edge s.A.H i r ∨ ¬ L r.s.toNat) (hg : ∀ j, L j → Got t.M j → Got s.M j) : Cl L G D t := by
  refine ⟨⟨fun j hj => ?_, fun m i hm hi => ?_, fun i hi hz => ?_, fun i r hi hE ht hL => ?_⟩, fun j hj hgt => h.got j hj (hg j hj hgt)⟩
  · obtain ⟨a1, a2, a3, a4⟩ := hh j hj
    obtain ⟨b1, b2, b3, b4⟩ := h.nx.here j hj
    exact ⟨by rw [a1]; exact b1, a2.trans b2, a3.trans b3, a4.trans b4⟩
  · rcases hr m i hm hi with ⟨m', j, h1, h2, h3⟩ | h1
    · rw [h3]; exact h.nx.root m' j h1 h2
    · exact h1
  · rcases hv i hi hz with h1 | h1
    · rw [h1] at hz ⊢; exact h.nx.var i hi hz
    · exact h1
  · rcases he i r hi hE with h1 | h1
    · obtain ⟨a1, a2, a3, a4⟩ := hh _ hL
      obtain ⟨t1, t2, t3, t4, t5⟩ := ht.lt
      exact h.nx.edge i r hi h1 (There.of t1 (by rw [a1] at t2; exact t2) (a2 ▸ t4) (a3 ▸ t5)) hL
    · exact h1 hL
/-! what is marked or noted by the marker's calls -/
theorem got_shade {M : Mk} {l : List Int} {j : Nat} (h : Got (M.shade l) j) : Got M j ∨ ∃ x ∈ l, x.toNat = j := by
  have key : ∀ (l : List Int) (PS : Pt × Sq), (shds PS l).1.c j ≠ 0 → PS.1.c j ≠ 0 ∨ ∃ x ∈ l, x.toNat = j := by
    intro l
    induction l with
    | nil => intro PS h; exact .inl h
    | cons x l ih =>
      intro PS h
      rcases ih (shd PS.1 PS.2 x.toNat) h with h1 | ⟨y, hy, hyj⟩
      · by_cases e : x.toNat = j
        · exact .inr ⟨x, by simp, e⟩
        · left
          have : (shd PS.1 PS.2 x.toNat).1.c j = PS.1.c j := by
            unfold shd
            split
            · exact updf_ne _ _ (fun h => e h.symm)
            · rfl
          rw [this] at h1; exact h1
      · exact .inr ⟨y, by simp [hy], hyj⟩
  rcases h with h | h
  · rcases key l (M.P, M.S) h with h1 | h1
    · exact .inl (.inl h1)
    · exact .inr h1
  · exact .inl (.inr h)
theorem got_note {M : Mk} (hf : Full M) {i : Nat} {x : Int} (hx : 0 ≤ x) {j : Nat} (h : Got (M.note i x) j) : Got M j ∨ x.toNat = j := by
  unfold Mk.note at h
  split at h
  · rcases h with h | ⟨k, hk, h⟩
    · have h' : (shd M.P M.S x.toNat).1.c j ≠ 0 := h
      unfold shd at h'
      split at h'
      · by_cases e : j = x.toNat
        · exact .inr e.symm
        · exact .inl (.inl (by rwa [show (M.P.put x.toNat 1).c j = M.P.c j from updf_ne _ _ e] at h'))
      · exact .inl (.inl h')
    · left; right
      refine ⟨k, hk, ?_⟩
      have h' : (j : Int) ∈ (updf M.B i (M.B i).over k).list := h
      by_cases e : k = i
      · rw [e, updf_same, Bf.list_over] at h'; rw [e]; exact h'
      · rwa [updf_ne _ _ e] at h'
  · rename_i hn
    rcases h with h | ⟨k, hk, h⟩
    · exact .inl (.inl h)
    · have h' : (j : Int) ∈ (updf M.B i ((M.B i).note x) k).list := h
      by_cases e : k = i
      · have := hf i
        rw [e, updf_same, Bf.list_note (by omega)] at h'
        rcases List.mem_append.1 h' with h1 | h1
        · exact .inl (.inr ⟨i, e ▸ hk, h1⟩)
        · right
          have := List.mem_singleton.1 h1
          omega
      · rw [updf_ne _ _ e] at h'
        exact .inl (.inr ⟨k, hk, h'⟩)
theorem got_note1 {M : Mk} (hf : Full M) {i : Nat} (hi : i < M.K.many) {r : Rf} (hr : r.nz = true → 0 ≤ r.s) {j : Nat} (h : Got (M.note1 i r) j) : Got M j ∨ (r.nz = true ∧ r.s.toNat = j) := by
  unfold Mk.note1 at h
  split at h
  · rename_i hz
    rcases got_note hf (hr hz) h with h1 | h1
    · exact .inl h1
    · exact .inr ⟨hz, h1⟩
  · exact .inl h
theorem got_wrote {M : Mk} (hf : Full M) {k : Nat} {was now : Rf} (hw : was.nz = true → 0 ≤ was.s) (hn : now.nz = true → 0 ≤ now.s) {j : Nat} (h : Got (M.wroteR k was now).1 j) : Got M j ∨ (was.nz = true ∧ was.s.toNat = j) ∨ (now.nz = true ∧ now.s.toNat = j) := by
  unfold Mk.wroteR at h
  split at h
  · exact .inl h
  rename_i hk
  split at h
  · exact .inl h
  split at h
  · have hk' : k < M.K.many := by omega
    rw [Int.toNat_natCast] at h
    have hf1 := (up_note1 (H := (Ar.new 1 1 1).H) hf hk' hw).2.2.1
    rcases got_note1 hf1 (i := k) (by rw [(M.note1_K k was).1]; exact hk') hn h with h1 | h1
    · rcases got_note1 hf hk' hw h1 with h2 | h2
      · exact .inl h2
      · exact .inr (.inl h2)
    · exact .inr (.inr h1)
  · exact .inl h
theorem got_drain1 {M : Mk} (hok : M.Ok) {k j : Nat} (hk : k < M.K.many) (h : Got (M.drain1 k) j) : Got M j := by
  have h2 : Got (M.shade (M.B k).list) j := by
    rcases h with h1 | ⟨i, hi, h1⟩
    · exact .inl h1
    · right
      have h1' : (j : Int) ∈ (updf M.B k (M.B k).drain i).list := h1
      by_cases e : i = k
      · rw [e, updf_same, Bf.list_drain] at h1'; cases h1'
      · rw [updf_ne _ _ e] at h1'; exact ⟨i, hi, h1'⟩
  rcases got_shade h2 with h3 | ⟨x, hx, hj⟩
  · exact h3
  · right
    have hx0 := (hok.list hk x hx).1
    exact ⟨k, hk, by rw [← hj, Int.toNat_of_nonneg hx0]; exact hx⟩
theorem got_drains {M : Mk} (hok : M.Ok) {j : Nat} : ∀ k, k ≤ M.K.many → Got (M.drains k) j → Got M j
  | 0, _, h => h
  | k + 1, hk, h => got_drains hok k (by omega) (got_drain1 (M := M.drains k) (hok.drains (by omega)) (by rw [(M.drains_K k).1]; omega) h)
theorem got_scanAt {M : Mk} {H : Hp} {i j : Nat} (h : Got (M.scanAt H i) j) : Got M j ∨ j = i ∨ (H.T.st i = 1 ∧ ∃ x ∈ chs H (H.ob i), x.toNat = j) := by
  unfold Mk.scanAt at h
  split at h
  · rename_i hs
    by_cases e : j = i
    · exact .inr (.inl e)
    have h2 : Got (M.shade (chs H (H.ob i))) j := by
      rcases h with h1 | h1
      · left
        have h1' : updf (shds (M.P, M.S) (chs H (H.ob i))).1.c i 2 j ≠ 0 := h1
        rw [updf_ne _ _ e] at h1'; exact h1'
      · exact .inr h1
    rcases got_shade h2 with h3 | h3
    · exact .inl h3
    · exact .inr (.inr ⟨hs, h3⟩)
  · by_cases e : j = i
    · exact .inr (.inl e)
    rcases h with h1 | h1
    · left; left
      have h1' : updf M.P.c i 2 j ≠ 0 := h1
      rw [updf_ne _ _ e] at h1'; exact h1'
    · exact .inl (.inr h1)
theorem got_trace1 {M : Mk} (hok : M.Ok) {H : Hp} {j : Nat} (h : Got (M.trace1 H) j) : Got M j ∨ ∃ i, i < M.P.n ∧ M.P.c i ≠ 0 ∧ H.T.st i = 1 ∧ ∃ x ∈ chs H (H.ob i), x.toNat = j := by
  unfold Mk.trace1 at h
  split at h
  · split at h
    · exact .inl h
    · rename_i i r hg
      obtain ⟨g1, g2⟩ := gr_head hg
      rcases got_scanAt h with h1 | rfl | ⟨h1, h2⟩
      · exact .inl h1
      · exact .inl (.inl (by rw [g2]; decide))
      · exact .inr ⟨i, g1, by rw [g2]; decide, h1, h2⟩
  · split at h
    · rename_i hc
      have hst := hok.st (M.S.n - 1)
      rcases got_scanAt h with h1 | rfl | ⟨h1, h2⟩
      · exact .inl h1
      · exact .inl (.inl (by rw [hc]; decide))
      · exact .inr ⟨_, by omega, by rw [hc]; decide, h1, h2⟩
    · exact .inl h
theorem chs_edge {H : Hp} {i : Nat} (hi : i < H.T.n) (hs : H.T.st i = 1) {x : Int} (h : x ∈ chs H (H.ob i)) : ∃ r, r.s = x ∧ Edge H i r ∧ There H r := by
  unfold chs at h
  obtain ⟨r, hr, rfl⟩ := List.mem_map.1 h
  obtain ⟨h1, h2⟩ := mem_hres.1 hr
  obtain ⟨⟨k, q⟩, hq, rfl⟩ := List.mem_map.1 h1
  obtain ⟨e1, e2, e3⟩ := Ob.upto_mem hq
  exact ⟨_, rfl, ⟨hi, hs, e2, k, e3, e1⟩, h2⟩
theorem Cl.marker {s : Sys} (h : Cl L G D s) {M' : Mk} (hg : ∀ j, L j → Got M' j → Got s.M j) : Cl L G D ⟨s.A, M'⟩ :=
  ⟨h.nx, fun j hj hgt => h.got j hj (hg j hj hgt)⟩
theorem mem_glL {A : Ar} {r : Rf} (h : r ∈ A.glL) : ∃ i, i < 8 ∧ A.gl i = r ∧ r.nz = true := by
  unfold Ar.glL at h
  obtain ⟨h1, h2⟩ := List.mem_filter.1 h
  obtain ⟨i, hi, rfl⟩ := List.mem_map.1 h1
  exact ⟨i, List.mem_range.1 hi, rfl, h2⟩
theorem mem_skl {S : Sk} {r : Rf} (h : r ∈ S.l) : ∃ i, i < S.n ∧ S.f i = r := by
  unfold Sk.l at h
  obtain ⟨i, hi, rfl⟩ := List.mem_map.1 h
  exact ⟨i, List.mem_range.1 hi, rfl⟩
theorem Cl.step {s : Sys} (h : Cl L G D s) (hok : s.Ok) : Cl L G D s.step := by
  refine h.marker (fun j hj hgt => ?_)
  unfold Mk.stepR at hgt
  split at hgt
  · split at hgt
    · rcases got_shade hgt with h1 | ⟨x, hx, hxj⟩
      · exact h1
      · exfalso
        obtain ⟨r, hr, rfl⟩ := List.mem_map.1 hx
        obtain ⟨i, h1, rfl, h3⟩ := mem_glL (mem_hres.1 hr).1
        exact h.nx.var i h1 h3 (hxj ▸ hj)
    · exact hgt
  split at hgt
  · split at hgt
    · exact hgt
    · exact hgt
  split at hgt
  · unfold Mk.traceR at hgt
    have hdk := s.M.drains_K s.M.K.many
    rcases got_trace1 (hok.m.drains (Nat.le_refl _)) hgt with h1 | ⟨i, h1, h2, h3, x, hx, hxj⟩
    · exact got_drains hok.m _ (Nat.le_refl _) h1
    · exfalso
      have hgi : Got s.M i := got_drains hok.m _ (Nat.le_refl _) (.inl h2)
      obtain ⟨r, rfl, he, ht⟩ := chs_edge (by rw [hok.n, ← hdk.2]; exact h1) h3 hx
      exact h.nx.edge i r (fun hl => h.got i hl hgi) he ht (hxj ▸ hj)
  · exact hgt
theorem Cl.ack {s : Sys} (h : Cl L G D s) (hok : s.Ok) (i : Int) : Cl L G D ⟨s.A, (s.M.ackR s.A i).M⟩ := by
  refine h.marker (fun j hj hgt => ?_)
  unfold Mk.ackR at hgt
  split at hgt
  · exact hgt
  rename_i hi
  split at hgt
  · exact hgt
  split at hgt
  · rcases got_shade hgt with h1 | ⟨x, hx, hxj⟩
    · exact h1
    · exfalso
      obtain ⟨r, hr, rfl⟩ := List.mem_map.1 hx
      obtain ⟨k, h1, rfl⟩ := mem_skl (mem_hres.1 hr).1
      exact h.nx.root i.toNat k (by rw [hok.k]; omega) h1 (hxj ▸ hj)
  · exact hgt
theorem Cl.go4 {s : Sys} (h : Cl L G D s) (hp : s.M.K.ph = 4) : Cl L G D ⟨s.A, s.M.goR.1⟩ := by
  rw [goR_4 hp]
  exact h.marker (fun j _ hg => hg)
theorem Cl.begun {s : Sys} (h : Cl L G D s) : Cl L G D s.begun := by
  refine h.marker (fun j _ hg => ?_)
  unfold Mk.beginR at hg
  split at hg
  · exact hg
  · exact hg
theorem Cl.acks {s : Sys} (h : Cl L G D s) (hok : s.Ok) (k : Nat) : Cl L G D (s.acks k) := by
  induction k with
  | zero => exact h
  | succ k ih => exact ih.ack (Sys.acks_next hok k).1 k
def Sys.lostS (s : Sys) (j : Nat) : Prop := j < s.A.H.T.n ∧ s.A.H.T.st j = 1 ∧ ¬ Rch s.A ⟨j, s.A.H.T.gn j⟩
theorem There.eta {H : Hp} {r : Rf} (h : There H r) : r = ⟨r.s.toNat, H.T.gn r.s.toNat⟩ := by
  obtain ⟨t1, t2, t3, t4, t5⟩ := h.lt
  rw [t5, Int.toNat_of_nonneg t1]
theorem Cl.init {s : Sys} (hs : Safe s) (hw : ∀ j, ¬ Got s.M j) : Cl s.lostS s.A.H.T.gn (fun j => (s.A.H.ob j).h) s := by
  have nr : ∀ r, Rch s.A r → ¬ s.lostS r.s.toNat := fun r hr hl => by
    have := (hs.nd r hr).eta
    exact hl.2.2 (this ▸ hr)
  refine ⟨⟨fun j hj => ⟨hj.1, hj.2.1, rfl, rfl⟩, fun m i h1 h2 => nr _ (.root h1 h2), fun i h1 h2 => nr _ (.var h1 h2), fun i r hi he ht => ?_⟩, fun j _ => hw j⟩
  have hri : Rch s.A ⟨i, s.A.H.T.gn i⟩ := Classical.byContradiction (fun h => hi ⟨he.1, he.2.1, h⟩)
  exact nr r (.field hri (hs.nd _ hri) (by rw [show (⟨(i : Int), s.A.H.T.gn i⟩ : Rf).s.toNat = i from Int.toNat_natCast i]; exact he))
theorem Nx.free {s : Sys} (h : Nx L G D s.A) {i : Nat} (hin : i < s.A.H.T.n) (w1 : s.A.H.T.st i = 1) : Nx (fun j => L j ∧ j ≠ i) G D (s.free i).A := by
  have hck : ckV s.A.H.T (i : Int) (s.A.H.T.gn i) = 0 := ckV_tk hin w1
  have hfr : (s.free i).A.H = s.A.H.free i := by
    show (s.A.H.freeR ⟨i, s.A.H.T.gn i⟩).1 = _
    unfold Hp.freeR
    rw [if_neg (by show ¬ ckV s.A.H.T (i : Int) (s.A.H.T.gn i) ≠ 0; rw [hck]; exact fun h => h rfl)]
    show s.A.H.free (i : Int).toNat = _
    rw [Int.toNat_natCast]
  have hst : ∀ j, (s.free i).A.H.T.st j = if j = i then (if s.A.H.T.gn i < 4294967295 then 0 else 2) else s.A.H.T.st j := fun j => by
    rw [hfr]; show (s.A.H.T.give i).st j = _
    unfold Tb.give
    split <;> rfl
  have hgn : ∀ j, j ≠ i → (s.free i).A.H.T.gn j = s.A.H.T.gn j := fun j hj => by
    rw [hfr]; show (s.A.H.T.give i).gn j = _
    unfold Tb.give
    split
    · show upd _ _ _ j = _; unfold upd; rw [if_neg hj]
    · show upd _ _ _ j = _; unfold upd; rw [if_neg hj]
  have hob : ∀ j, j ≠ i → (s.free i).A.H.ob j = s.A.H.ob j := fun j hj => by rw [hfr]; exact updf_ne _ _ hj
  have hn : (s.free i).A.H.T.n = s.A.H.T.n := (Ar.freeR_n _ _).1
  have hsi : (s.free i).A.H.T.st i ≠ 1 := by rw [hst, if_pos rfl]; split <;> decide
  refine ⟨fun j ⟨hj, hji⟩ => ?_, fun m k hm hk hl => h.root m k hm hk hl.1, fun k hk hz hl => h.var k hk hz hl.1, fun k r hk he ht hl => ?_⟩
  · obtain ⟨b1, b2, b3, b4⟩ := h.here j hj
    exact ⟨by rw [hn]; exact b1, by rw [hst, if_neg hji]; exact b2, by rw [hgn j hji]; exact b3, by rw [hob j hji]; exact b4⟩
  · obtain ⟨e1, e2, e3, q, e4, e5⟩ := he
    have hki : k ≠ i := fun e => hsi (e ▸ e2)
    have hkL : ¬ L k := fun hl => hk ⟨hl, hki⟩
    rw [hn] at e1
    rw [hst, if_neg hki] at e2
    rw [hob k hki] at e5
    obtain ⟨t1, t2, t3, t4, t5⟩ := ht.lt
    have hri : r.s.toNat ≠ i := fun e => hsi (e ▸ t4)
    rw [hst, if_neg hri] at t4
    rw [hgn _ hri] at t5
    rw [hn] at t2
    exact h.edge k r hkL ⟨e1, e2, e3, q, e4, e5⟩ (There.of t1 t2 t4 t5) hl.1
theorem Cl.free {s : Sys} (h : Cl L G D s) (hok : s.Ok) {i : Nat} (hin : i < s.A.H.T.n) (w1 : s.A.H.T.st i = 1) (w2 : s.M.P.c i = 0) : Cl (fun j => L j ∧ j ≠ i) G D (s.free i) :=
  ⟨h.nx.free hin w1, fun j hj => by rw [(free_st hok hin w1 w2).1]; exact h.got j hj.1⟩
/-! what mutators do -/
theorem Cl.made {s : Sys} (h : Cl L G D s) (hok : s.Ok) {m i : Nat} {g : Int} {o : Ob} (hi : i < s.A.H.T.n) (hst : s.A.H.T.st i = 0) (ho : ∀ k, (o.fs k).nz = false) :
    Cl L G D ⟨s.A.made m i g o, (s.M.madeR ⟨i, g⟩).1⟩ := by
  have hir : (⟨i, g⟩ : Rf).s.toNat = i := Int.toNat_natCast i
  have hLi : ¬ L i := fun hl => by have := (h.nx.here i hl).2.1; rw [hst] at this; cases this
  have hLn : ∀ j, L j → j ≠ i := fun j hj e => hLi (e ▸ hj)
  refine h.move (fun j hj => ?_) (fun k j hk hj => ?_) (fun j hj hz => .inl rfl) (fun k r _ he => ?_) (fun j hj hg => ?_)
  · have e := hLn j hj
    refine ⟨rfl, ?_, ?_, ?_⟩
    · show upd s.A.H.T.st i 1 j = _; unfold upd; rw [if_neg e]
    · show upd s.A.H.T.gn i g j = _; unfold upd; rw [if_neg e]
    · show (updf s.A.H.ob i o j).h = _; rw [updf_ne _ _ e]
  · have hj' : j < (updf s.A.rt m ((s.A.rt m).push ⟨i, g⟩) k).n := hj
    show (∃ m' l, m' < s.A.many ∧ l < _ ∧ (updf s.A.rt m ((s.A.rt m).push ⟨i, g⟩) k).f j = _) ∨ ¬ L ((updf s.A.rt m ((s.A.rt m).push ⟨i, g⟩) k).f j).s.toNat
    by_cases e : k = m
    · subst e
      rw [updf_same] at hj' ⊢
      have hj2 : j < (s.A.rt k).n + 1 := hj'
      show (∃ m' l, m' < s.A.many ∧ l < _ ∧ updf (s.A.rt k).f (s.A.rt k).n _ j = _) ∨ ¬ L (updf (s.A.rt k).f (s.A.rt k).n _ j).s.toNat
      by_cases e2 : j = (s.A.rt k).n
      · right; rw [e2, updf_same, hir]; exact hLi
      · left; exact ⟨k, j, hk, by omega, updf_ne _ _ e2⟩
    · rw [updf_ne _ _ e] at hj' ⊢
      exact .inl ⟨k, j, hk, hj', rfl⟩
  · obtain ⟨e1, e2, e3, e4⟩ := he
    have e4' : ∃ j, j < 4 ∧ (updf s.A.H.ob i o k).fs j = r := e4
    by_cases e : k = i
    · rw [e, updf_same] at e4'
      obtain ⟨j, _, hj⟩ := e4'
      have := ho j
      rw [hj, e3] at this; cases this
    · rw [updf_ne _ _ e] at e4'
      have e2' : upd s.A.H.T.st i 1 k = 1 := e2
      unfold upd at e2'; rw [if_neg e] at e2'
      exact .inl ⟨e1, e2', e3, e4'⟩
  · have hg' : Got (s.M.madeR ⟨i, g⟩).1 j := hg
    unfold Mk.madeR at hg'
    split at hg'
    · exact hg'
    split at hg'
    · rcases hg' with h1 | h1
      · left
        have h1' : (s.M.P.born (⟨i, g⟩ : Rf).s.toNat).c j ≠ 0 := h1
        rw [hir] at h1'
        unfold Pt.born at h1'
        split at h1'
        · rwa [show (s.M.P.put i 2).c j = s.M.P.c j from updf_ne _ _ (hLn j hj)] at h1'
        · exact h1'
      · exact .inr h1
    · exact hg'
theorem Cl.push {s : Sys} (h : Cl L G D s) {m : Nat} {v : Rf} (hv : ¬ L v.s.toNat) : Cl L G D ⟨(s.A.pushR m v).A, s.M⟩ := by
  unfold Ar.pushR
  split
  · exact h
  · refine h.move (fun j hj => ⟨rfl, rfl, rfl, rfl⟩) (fun k j hk hj => ?_) (fun j hj hz => .inl rfl) (fun k r _ he => .inl he) (fun j hj hg => hg)
    have hj' : j < (updf s.A.rt m ((s.A.rt m).push v) k).n := hj
    show (∃ m' l, m' < s.A.many ∧ l < _ ∧ (updf s.A.rt m ((s.A.rt m).push v) k).f j = _) ∨ ¬ L ((updf s.A.rt m ((s.A.rt m).push v) k).f j).s.toNat
    by_cases e : k = m
    · subst e
      rw [updf_same] at hj' ⊢
      have hj2 : j < (s.A.rt k).n + 1 := hj'
      show (∃ m' l, m' < s.A.many ∧ l < _ ∧ updf (s.A.rt k).f (s.A.rt k).n _ j = _) ∨ ¬ L (updf (s.A.rt k).f (s.A.rt k).n _ j).s.toNat
      by_cases e2 : j = (s.A.rt k).n
      · right; rw [e2, updf_same]; exact hv
      · left; exact ⟨k, j, hk, by omega, updf_ne _ _ e2⟩
    · rw [updf_ne _ _ e] at hj' ⊢
      exact .inl ⟨k, j, hk, hj', rfl⟩
theorem Cl.dropR {s : Sys} (h : Cl L G D s) (m i : Int) : Cl L G D ⟨(s.A.dropR m i).A, s.M⟩ := by
  unfold Ar.dropR
  split
  · exact h
  split
  · exact h
  · refine h.move (fun j hj => ⟨rfl, rfl, rfl, rfl⟩) (fun k j hk hj => ?_) (fun j hj hz => .inl rfl) (fun k r _ he => .inl he) (fun j hj hg => hg)
    left
    have hj' : j < (updf s.A.rt m.toNat ((s.A.rt m.toNat).drop i.toNat) k).n := hj
    show ∃ m' l, m' < s.A.many ∧ l < _ ∧ (updf s.A.rt m.toNat ((s.A.rt m.toNat).drop i.toNat) k).f j = _
    by_cases e : k = m.toNat
    · subst e
      rw [updf_same] at hj' ⊢
      have hj2 : j < (s.A.rt m.toNat).n - 1 := hj'
      show ∃ m' l, m' < s.A.many ∧ l < _ ∧ (if i.toNat ≤ j ∧ j < (s.A.rt m.toNat).n - 1 then (s.A.rt m.toNat).f (j + 1) else (s.A.rt m.toNat).f j) = _
      split
      · exact ⟨_, j + 1, hk, by omega, rfl⟩
      · exact ⟨_, j, hk, by omega, rfl⟩
    · rw [updf_ne _ _ e] at hj' ⊢
      exact ⟨k, j, hk, hj', rfl⟩
theorem Cl.setF {s : Sys} (h : Cl L G D s) (hok : s.Ok) (hs : Safe s) {k f : Nat} {o v : Rf} (ho : Rch s.A o) (hf : f < 4) (hv : v.nz = true → Rch s.A v) :
    Cl L G D ⟨{ s.A with H := s.A.H.setF o.s.toNat f v }, (s.M.wroteR k ((s.A.H.ob o.s.toNat).fs f) v).1⟩ := by
  have hto := hs.nd o ho
  obtain ⟨_, _, ho3, ho4, _⟩ := hto.lt
  have hwas : ((s.A.H.ob o.s.toNat).fs f).nz = true → Rch s.A ((s.A.H.ob o.s.toNat).fs f) := fun hz => .field ho hto ⟨ho3, ho4, hz, f, hf, rfl⟩
  have hnr := h.rch hs
  refine h.move (fun j hj => ⟨rfl, rfl, rfl, ?_⟩) (fun k j hk hj => .inl ⟨k, j, hk, hj, rfl⟩) (fun j hj hz => .inl rfl) (fun i r _ he => ?_) (fun j hj hg => ?_)
  · show (updf s.A.H.ob o.s.toNat ((s.A.H.ob o.s.toNat).set f v) j).h = _
    by_cases e : j = o.s.toNat
    · rw [e, updf_same]; exact Ob.set_n.2
    · rw [updf_ne _ _ e]
  · obtain ⟨e1, e2, e3, j, e4, e5⟩ := he
    have e5' : (updf s.A.H.ob o.s.toNat ((s.A.H.ob o.s.toNat).set f v) i).fs j = r := e5
    by_cases e : i = o.s.toNat
    · rw [e, updf_same, Ob.set_fs hf e4] at e5'
      by_cases ej : j = f
      · rw [if_pos ej] at e5'; subst e5'; exact .inr (hnr v (hv e3))
      · rw [if_neg ej, ← e] at e5'; exact .inl ⟨e1, e2, e3, j, e4, e5'⟩
    · rw [updf_ne _ _ e] at e5'
      exact .inl ⟨e1, e2, e3, j, e4, e5'⟩
  · rcases got_wrote hs.full (fun hz => ((hwas hz).rng hok hs).1) (fun hz => ((hv hz).rng hok hs).1) hg with h1 | ⟨h1, rfl⟩ | ⟨h1, rfl⟩
    · exact h1
    · exact absurd hj (hnr _ (hwas h1))
    · exact absurd hj (hnr _ (hv h1))
theorem Cl.setG {s : Sys} (h : Cl L G D s) (hok : s.Ok) (hs : Safe s) {k f : Nat} {v : Rf} (hf : f < 8) (hv : v.nz = true → Rch s.A v) :
    Cl L G D ⟨{ s.A with gl := updf s.A.gl f v }, (s.M.wroteR k (s.A.gl f) v).1⟩ := by
  have hnr := h.rch hs
  refine h.move (fun j hj => ⟨rfl, rfl, rfl, rfl⟩) (fun k j hk hj => .inl ⟨k, j, hk, hj, rfl⟩) (fun j hj hz => ?_) (fun i r _ he => .inl he) (fun j hj hg => ?_)
  · have hz' : (updf s.A.gl f v j).nz = true := hz
    show updf s.A.gl f v j = _ ∨ ¬ L (updf s.A.gl f v j).s.toNat
    by_cases e : j = f
    · rw [e, updf_same] at hz' ⊢; exact .inr (hnr v (hv hz'))
    · left; exact updf_ne _ _ e
  · rcases got_wrote hs.full (fun hz => ((Rch.var hf hz).rng hok hs).1) (fun hz => ((hv hz).rng hok hs).1) hg with h1 | ⟨h1, rfl⟩ | ⟨h1, rfl⟩
    · exact h1
    · exact absurd hj (hnr _ (.var hf h1))
    · exact absurd hj (hnr _ (hv h1))
theorem Cl.told0 {s : Sys} (h : Cl L G D s) {R : Res} (hA : R.A = s.A) (he : R.e ≠ 0) (k : Int) : Cl L G D (Sys.told R s k) := by
  unfold Sys.told
  rw [if_neg he, hA]
  exact h
theorem Cl.mo {s : Sys} (h : Cl L G D s) (hok : s.Ok) (hs : Safe s) (x : Mo) : Cl L G D (x.doR s) := by
  cases x with
  | make k n hd =>
    have same : ∀ e : Int, e ≠ 0 → Cl L G D ⟨s.A, if e = 0 then (s.M.madeR Rf.no).1 else s.M⟩ := fun e he => by rw [if_neg he]; exact h
    unfold Mo.doR Ar.makeR
    dsimp only
    split
    · exact same 3 (by decide)
    split
    · exact same 2 (by decide)
    split
    · exact same 4 (by decide)
    split
    · exact same 4 (by decide)
    · rename_i i g r hx
      obtain ⟨h1, h2, h3⟩ := Tb.inn_mem (T := s.A.H.T) (s := 0) (k := s.A.H.T.n) (i := i) (g := g) (by rw [hx]; simp)
      rw [if_pos rfl, Int.toNat_natCast]
      exact h.made hok h3 h1 (fun k => by unfold Ob.fs; split <;> rfl)
  | load k i f =>
    unfold Mo.doR Ar.loadR
    dsimp only
    split
    · exact h
    split
    · exact h
    split
    · exact h
    split
    · exact h
    · rename_i h1 h2 h3 h4
      obtain ⟨r1, r2, r3, r4⟩ := rch_root (Decidable.not_not.1 h2)
      clear r4
      have ht := hs.nd _ r1
      obtain ⟨_, _, t3, t4, _⟩ := ht.lt
      generalize (s.A.rootR k i).1 = o at *
      have h3' : (s.A.H.loadR o f).2 = 0 := Decidable.not_not.1 h3
      have h4' : (s.A.H.loadR o f).1.nz = true := by simpa using h4
      have he : Edge s.A.H o.s.toNat (s.A.H.loadR o f).1 := by
        refine ⟨t3, t4, h4', f.toNat, ?_⟩
        unfold Hp.loadR at h3' ⊢
        split at h3'
        · rename_i h5; exact absurd h3' h5
        rename_i h5
        split at h3'
        · cases h3'
        rename_i h6
        rw [if_neg h5, if_neg h6]
        have := (hok.a.ob o.s.toNat).n4
        exact ⟨by omega, rfl⟩
      exact h.push (h.rch hs _ (.field r1 ht he))
  | store k i f j =>
    show Cl L G D (Sys.told (s.A.storeR k i f j) s k)
    by_cases h1 : (s.A.rootR k i).2 ≠ 0
    · have e : s.A.storeR k i f j = ⟨s.A, .no, .no, (s.A.rootR k i).2⟩ := by unfold Ar.storeR; rw [if_pos h1]
      rw [e]; exact h.told0 (R := ⟨s.A, .no, .no, (s.A.rootR k i).2⟩) rfl h1 _
    by_cases h2 : (s.A.valueR k j).2 ≠ 0
    · have e : s.A.storeR k i f j = ⟨s.A, .no, .no, (s.A.valueR k j).2⟩ := by unfold Ar.storeR; rw [if_neg h1, if_pos h2]
      rw [e]; exact h.told0 (R := ⟨s.A, .no, .no, (s.A.valueR k j).2⟩) rfl h2 _
    by_cases h3 : (s.A.H.storeR (s.A.rootR k i).1 f (s.A.valueR k j).1).2.2 ≠ 0
    · have e : s.A.storeR k i f j = ⟨s.A, .no, .no, (s.A.H.storeR (s.A.rootR k i).1 f (s.A.valueR k j).1).2.2⟩ := by unfold Ar.storeR; rw [if_neg h1, if_neg h2, if_pos h3]
      rw [e]; exact h.told0 (R := ⟨s.A, .no, .no, (s.A.H.storeR (s.A.rootR k i).1 f (s.A.valueR k j).1).2.2⟩) rfl h3 _
    have ho := (rch_root (Decidable.not_not.1 h1)).1
    have hv := rch_value (A := s.A) (m := k) (i := j)
    have e : s.A.storeR k i f j = ⟨{ s.A with H := (s.A.H.storeR (s.A.rootR k i).1 f (s.A.valueR k j).1).1 }, (s.A.H.storeR (s.A.rootR k i).1 f (s.A.valueR k j).1).2.1, (s.A.valueR k j).1, 0⟩ := by
      unfold Ar.storeR; rw [if_neg h1, if_neg h2, if_neg h3]
    rw [e]
    generalize (s.A.rootR k i).1 = o at *
    generalize (s.A.valueR k j).1 = v at *
    have h3' : (s.A.H.storeR o f v).2.2 = 0 := Decidable.not_not.1 h3
    unfold Hp.storeR at h3' ⊢
    split at h3'
    · rename_i h4; exact absurd h3' h4
    rename_i h4
    split at h3'
    · cases h3'
    rename_i h5
    split at h3'
    · rename_i h6; exact absurd h3' h6.2
    rename_i h6
    rw [if_neg h4, if_neg h5, if_neg h6]
    have hn4 := (hok.a.ob o.s.toNat).n4
    have d1 := h.setF hok hs (k := k) (f := f.toNat) ho (by omega) hv
    show Cl L G D (Sys.told ⟨{ s.A with H := s.A.H.setF o.s.toNat f.toNat v }, (s.A.H.ob o.s.toNat).fs f.toNat, v, 0⟩ s k)
    unfold Sys.told
    rw [if_pos rfl]
    exact d1
  | drop k i => exact h.dropR _ _
  | put k i f =>
    show Cl L G D (Sys.told (s.A.putR k i f) s k)
    by_cases h1 : (s.A.valueR k i).2 ≠ 0
    · have e : s.A.putR k i f = ⟨s.A, .no, .no, (s.A.valueR k i).2⟩ := by unfold Ar.putR; rw [if_pos h1]
      rw [e]; exact h.told0 (R := ⟨s.A, .no, .no, (s.A.valueR k i).2⟩) rfl h1 _
    by_cases h2 : f < 0 ∨ 8 ≤ f
    · have e : s.A.putR k i f = ⟨s.A, .no, .no, 3⟩ := by unfold Ar.putR; rw [if_neg h1, if_pos h2]
      rw [e]; exact h.told0 (R := ⟨s.A, .no, .no, 3⟩) rfl (fun h => by cases h) _
    have e : s.A.putR k i f = ⟨{ s.A with gl := updf s.A.gl f.toNat (s.A.valueR k i).1 }, s.A.gl f.toNat, (s.A.valueR k i).1, 0⟩ := by unfold Ar.putR; rw [if_neg h1, if_neg h2]
    rw [e]
    have hv := rch_value (A := s.A) (m := k) (i := i)
    have d1 := h.setG hok hs (k := k) (f := f.toNat) (by omega) hv
    unfold Sys.told
    rw [if_pos rfl]
    exact d1
  | get k g =>
    unfold Mo.doR Ar.getR
    dsimp only
    split
    · exact h
    split
    · exact h
    split
    · exact h
    · rename_i h1 h2 h3
      exact h.push (h.nx.var g.toNat (by omega) (by simpa using h3))
end Go.Proofs.YtnjgkhgdgpahfaaGreat

/- Plain laws of collectors: what is lost when a cycle begins is found by it, once, and is gone when it has ended. -/
namespace Go.Proofs.YtnjgkhgdgpahfaaGreat
open Go.RowKit
set_option linter.unusedVariables false
set_option linter.unusedSimpArgs false

def Used (H : Hp) (r : Rf) : Prop := ∃ j : Nat, r.s = j ∧ (r.g < H.T.gn j ∨ (r.g = H.T.gn j ∧ H.T.st j ≠ 0))
def Gone (H : Hp) (j : Nat) (g : Int) : Prop := g < H.T.gn j ∨ (g = H.T.gn j ∧ H.T.st j = 2)
theorem There.used {H : Hp} {r : Rf} (h : There H r) : Used H r := by
  obtain ⟨t1, t2, t3, t4, t5⟩ := h.lt
  exact ⟨r.s.toNat, by omega, .inr ⟨t5.symm, by rw [t4]; decide⟩⟩
theorem Mo.tb (x : Mo) (s : Sys) (j : Nat) : (x.doR s).A.H.T.gn j = s.A.H.T.gn j ∧ ((x.doR s).A.H.T.st j = s.A.H.T.st j ∨ (s.A.H.T.st j = 0 ∧ (x.doR s).A.H.T.st j = 1)) := by
  have same : ∀ {T : Tb}, T = s.A.H.T → T.gn j = s.A.H.T.gn j ∧ (T.st j = s.A.H.T.st j ∨ (s.A.H.T.st j = 0 ∧ T.st j = 1)) := fun e => by subst e; exact ⟨rfl, .inl rfl⟩
  cases x with
  | make k n hd =>
    show (s.A.makeR k n hd).A.H.T.gn j = _ ∧ ((s.A.makeR k n hd).A.H.T.st j = _ ∨ (_ ∧ (s.A.makeR k n hd).A.H.T.st j = 1))
    unfold Ar.makeR
    split
    · exact same rfl
    split
    · exact same rfl
    split
    · exact same rfl
    split
    · exact same rfl
    · rename_i i g r hx
      obtain ⟨h1, h2, h3⟩ := Tb.inn_mem (T := s.A.H.T) (s := 0) (k := s.A.H.T.n) (i := i) (g := g) (by rw [hx]; simp)
      show upd s.A.H.T.gn i g j = _ ∧ (upd s.A.H.T.st i 1 j = _ ∨ (_ ∧ upd s.A.H.T.st i 1 j = 1))
      unfold upd
      by_cases e : j = i
      · rw [if_pos e, if_pos e, e]; exact ⟨h2.symm, .inr ⟨h1, rfl⟩⟩
      · rw [if_neg e, if_neg e]; exact ⟨rfl, .inl rfl⟩
  | load k i f => exact same (Ar.loadR_T _ _ _ _)
  | store k i f l =>
    refine same ?_
    show (Sys.told (s.A.storeR k i f l) s k).A.H.T = _
    exact Ar.storeR_T _ _ _ _ _
  | drop k i => exact same (Ar.dropR_T _ _ _)
  | put k i g =>
    refine same ?_
    show (Sys.told (s.A.putR k i g) s k).A.H.T = _
    exact Ar.putR_T _ _ _ _
  | get k g => exact same (Ar.getR_T _ _ _)
theorem Mo.used (x : Mo) {s : Sys} {r : Rf} (h : Used s.A.H r) : Used (x.doR s).A.H r := by
  obtain ⟨j, h1, h2⟩ := h
  obtain ⟨t1, t2⟩ := x.tb s j
  refine ⟨j, h1, ?_⟩
  rw [t1]
  rcases h2 with h2 | ⟨h2, h3⟩
  · exact .inl h2
  · right
    rcases t2 with t2 | ⟨t2, t3⟩
    · exact ⟨h2, by rw [t2]; exact h3⟩
    · exact absurd t2 h3
theorem Mo.gone (x : Mo) {s : Sys} {j : Nat} {g : Int} (h : Gone s.A.H j g) : Gone (x.doR s).A.H j g := by
  obtain ⟨t1, t2⟩ := x.tb s j
  unfold Gone
  rw [t1]
  rcases h with h2 | ⟨h2, h3⟩
  · exact .inl h2
  · right
    rcases t2 with t2 | ⟨t2, t3⟩
    · exact ⟨h2, by rw [t2]; exact h3⟩
    · rw [h3] at t2; cases t2
theorem free_tb {s : Sys} {i : Nat} (hin : i < s.A.H.T.n) (w1 : s.A.H.T.st i = 1) : (∀ j, j ≠ i → (s.free i).A.H.T.st j = s.A.H.T.st j ∧ (s.free i).A.H.T.gn j = s.A.H.T.gn j ∧ (s.free i).A.H.ob j = s.A.H.ob j) ∧ Gone (s.free i).A.H i (s.A.H.T.gn i) := by
  have hck : ckV s.A.H.T (i : Int) (s.A.H.T.gn i) = 0 := ckV_tk hin w1
  have hfr : (s.free i).A.H = s.A.H.free i := by
    show (s.A.H.freeR ⟨i, s.A.H.T.gn i⟩).1 = _
    unfold Hp.freeR
    rw [if_neg (by show ¬ ckV s.A.H.T (i : Int) (s.A.H.T.gn i) ≠ 0; rw [hck]; exact fun h => h rfl)]
    show s.A.H.free (i : Int).toNat = _
    rw [Int.toNat_natCast]
  refine ⟨fun j hj => ⟨?_, ?_, by rw [hfr]; exact updf_ne _ _ hj⟩, ?_⟩
  · rw [hfr]; show (s.A.H.T.give i).st j = _
    unfold Tb.give
    split
    · show upd _ _ _ j = _; unfold upd; rw [if_neg hj]
    · show upd _ _ _ j = _; unfold upd; rw [if_neg hj]
  · rw [hfr]; show (s.A.H.T.give i).gn j = _
    unfold Tb.give
    split
    · show upd _ _ _ j = _; unfold upd; rw [if_neg hj]
    · show upd _ _ _ j = _; unfold upd; rw [if_neg hj]
  · unfold Gone
    rw [hfr]
    show s.A.H.T.gn i < (s.A.H.T.give i).gn i ∨ (s.A.H.T.gn i = (s.A.H.T.give i).gn i ∧ (s.A.H.T.give i).st i = 2)
    unfold Tb.give
    split
    · left; show _ < upd _ _ _ i; unfold upd; rw [if_pos rfl]; omega
    · right; exact ⟨by show _ = upd _ _ _ i; unfold upd; rw [if_pos rfl], by show upd _ _ _ i = 2; unfold upd; rw [if_pos rfl]⟩
theorem Sw.step_gone {S : Sw} {s : Sys} (hok : s.Ok) (hn : S.next < s.M.P.n) {j : Nat} {g : Int} (h : Gone s.A.H j g) : Gone (S.stepR s).s.A.H j g := by
  unfold Sw.stepR
  split
  · exact h
  · rename_i hc
    have h1 : s.A.H.T.st S.next = 1 := Decidable.not_not.1 (fun hx => hc (.inr hx))
    have hin : S.next < s.A.H.T.n := by rw [hok.n]; exact hn
    obtain ⟨f1, f2⟩ := free_tb hin h1
    by_cases e : j = S.next
    · subst e
      rcases h with h | ⟨_, h⟩
      · rcases f2 with f2 | f2
        · exact .inl (Int.lt_trans h f2)
        · left; rw [← f2.1]; exact h
      · rw [h] at h1; cases h1
    · unfold Gone
      rw [(f1 j e).1, (f1 j e).2.1]; exact h
/-! nothing is marked in Idle -/
def Col.Clean (k : Col) : Prop := k.s.M.K.ph = 0 → ∀ j, ¬ Got k.s.M j
/-! what a cycle finds -/
def InOrder (F : List Rf) : Prop := F.Pairwise (fun x y => x.s < y.s)
structure Fd (L : Nat → Prop) (G : Nat → Int) (D : Nat → Bool) (k : Col) (F : List Rf) : Prop where
  a3 : k.s.M.K.ph ≤ 3 → Cl L G D k.s ∧ F = []
  a4 : k.s.M.K.ph = 4 → Cl L G D k.s ∧ InOrder F ∧ (∀ x ∈ F, x.s < k.C.at') ∧ ∀ j, L j → D j = true → j < k.C.at' → (⟨j, G j⟩ : Rf) ∈ F
  a5 : k.s.M.K.ph = 5 → Cl (fun j => L j ∧ k.C.S.next ≤ j) G D k.s ∧ InOrder F ∧ (∀ j, L j → D j = true → (⟨j, G j⟩ : Rf) ∈ F) ∧ ∀ j, L j → j < k.C.S.next → Gone k.s.A.H j (G j)
structure FdEnd (L : Nat → Prop) (G : Nat → Int) (D : Nat → Bool) (k : Col) (F : List Rf) : Prop where
  ord : InOrder F
  all : ∀ j, L j → D j = true → (⟨j, G j⟩ : Rf) ∈ F
  gone : ∀ j, L j → Gone k.s.A.H j (G j)
variable {L : Nat → Prop} {G : Nat → Int} {D : Nat → Bool}

theorem Fd.begin {k : Col} (h : k.Ok) (hc : k.Clean) (hp : k.s.M.K.ph = 0) : Fd k.s.lostS k.s.A.H.T.gn (fun j => (k.s.A.H.ob j).h) k.begin [] := by
  have := (Col.begin_ok h hp).2.2
  refine ⟨fun _ => ⟨(Cl.init h.safe (hc hp)).begun, rfl⟩, fun h4 => by omega, fun h5 => by omega⟩
theorem Fd.mo {k : Col} {F : List Rf} (h : Fd L G D k F) (hok : k.Ok) (x : Mo) : Fd L G D ⟨x.doR k.s, k.C⟩ F := by
  have hK := (x.next hok.s).K
  refine ⟨fun h3 => ?_, fun h4 => ?_, fun h5 => ?_⟩
  · dsimp only at h3; rw [hK] at h3
    obtain ⟨c1, c2⟩ := h.a3 h3
    exact ⟨c1.mo hok.s hok.safe x, c2⟩
  · dsimp only at h4; rw [hK] at h4
    obtain ⟨c1, c2, c3, c4⟩ := h.a4 h4
    exact ⟨c1.mo hok.s hok.safe x, c2, c3, c4⟩
  · dsimp only at h5; rw [hK] at h5
    obtain ⟨c1, c2, c3, c4⟩ := h.a5 h5
    exact ⟨c1.mo hok.s hok.safe x, c2, c3, fun j hj hl => x.gone (c4 j hj hl)⟩
theorem Fd.ack {k : Col} {F : List Rf} (h : Fd L G D k F) (hok : k.Ok) (i : Int) : Fd L G D ⟨⟨k.s.A, (k.s.M.ackR k.s.A i).M⟩, k.C⟩ F := by
  obtain ⟨_, a2, _⟩ := Sys.ack_next hok.s i
  refine ⟨fun h3 => ?_, fun h4 => ?_, fun h5 => ?_⟩
  · dsimp only at h3; rw [a2] at h3
    obtain ⟨c1, c2⟩ := h.a3 h3
    exact ⟨c1.ack hok.s i, c2⟩
  · dsimp only at h4; rw [a2] at h4
    obtain ⟨c1, c2, c3, c4⟩ := h.a4 h4
    exact ⟨c1.ack hok.s i, c2, c3, c4⟩
  · dsimp only at h5; rw [a2] at h5
    obtain ⟨c1, c2, c3, c4⟩ := h.a5 h5
    exact ⟨c1.ack hok.s i, c2, c3, c4⟩
theorem Fd.acks {k : Col} {F : List Rf} (h : Fd L G D k F) (hok : k.Ok) : ∀ n, Fd L G D (k.acks n) F
  | 0 => h
  | n + 1 => (h.acks hok n).ack (Col.acks_ok hok n).1 n
theorem Fd.asked {k : Col} {F : List Rf} (h : Fd L G D k F) : Fd L G D ⟨k.s, { k.C with asked := true }⟩ F := ⟨h.a3, h.a4, h.a5⟩
def CyRes.more (R : CyRes) (F : List Rf) : List Rf := if R.is = true then F ++ [R.r] else F
theorem Fd.discover {k : Col} {F : List Rf} (h : Fd L G D k F) (hok : k.Ok) (hp : k.s.M.K.ph = 4) : Fd L G D k.discover (if (k.s.lostAt k.C.at').2 = true then F ++ [(k.s.lostAt k.C.at').1] else F) := by
  obtain ⟨c1, c2, c3, c4⟩ := h.a4 hp
  obtain ⟨d1, d2, d3, d4, d5, d6, d7, d8⟩ := Col.discover_ok hok hp
  have hord : InOrder (if (k.s.lostAt k.C.at').2 = true then F ++ [(k.s.lostAt k.C.at').1] else F) ∧ (∀ x ∈ (if (k.s.lostAt k.C.at').2 = true then F ++ [(k.s.lostAt k.C.at').1] else F), x.s < (k.C.at' + 1 : Nat)) ∧
      ∀ j, L j → D j = true → j < k.C.at' + 1 → (⟨j, G j⟩ : Rf) ∈ (if (k.s.lostAt k.C.at').2 = true then F ++ [(k.s.lostAt k.C.at').1] else F) := by
    by_cases hl : (k.s.lostAt k.C.at').2 = true
    · rw [if_pos hl]
      have hs : (k.s.lostAt k.C.at').1.s = (k.C.at' : Int) := by
        unfold Sys.lostAt at hl ⊢
        split
        · rename_i hx; rw [if_pos hx] at hl; cases hl
        · rfl
      refine ⟨List.pairwise_append.2 ⟨c2, List.pairwise_singleton _ _, fun x hx y hy => ?_⟩, fun x hx => ?_, fun j h1 h2 h3 => ?_⟩
      · rw [List.mem_singleton.1 hy, hs]; exact c3 x hx
      · rcases List.mem_append.1 hx with hx | hx
        · have := c3 x hx; omega
        · rw [List.mem_singleton.1 hx, hs]; omega
      · rcases Nat.lt_succ_iff_lt_or_eq.1 h3 with h3 | rfl
        · exact List.mem_append.2 (.inl (c4 j h1 h2 h3))
        · refine List.mem_append.2 (.inr (List.mem_singleton.2 ?_))
          obtain ⟨b1, b2, b3, b4⟩ := c1.nx.here _ h1
          have hc0 : k.s.M.P.c k.C.at' = 0 := Decidable.not_not.1 (fun hx => c1.got _ h1 (.inl hx))
          rw [lostAt_some hc0 b2, b3]
    · rw [if_neg hl]
      refine ⟨c2, fun x hx => by have := c3 x hx; omega, fun j h1 h2 h3 => ?_⟩
      rcases Nat.lt_succ_iff_lt_or_eq.1 h3 with h3 | rfl
      · exact c4 j h1 h2 h3
      · exfalso
        obtain ⟨b1, b2, b3, b4⟩ := c1.nx.here _ h1
        have hc0 : k.s.M.P.c k.C.at' = 0 := Decidable.not_not.1 (fun hx => c1.got _ h1 (.inl hx))
        rw [lostAt_some hc0 b2] at hl
        exact hl (b4.trans h2)
  obtain ⟨o1, o2, o3⟩ := hord
  have hcl : Cl L G D k.discover.s := by
    unfold Col.discover
    split
    · exact c1.go4 hp
    · exact c1
  rcases d8 with ⟨x1, x2, x3⟩ | ⟨x1, x2, x3⟩
  · refine ⟨fun hx => by omega, fun hx => by omega, fun _ => ⟨?_, o1, fun j h1 h2 => o3 j h1 h2 ?_, fun j _ hj => ?_⟩⟩
    · rw [x3]
      refine ⟨⟨fun j hj => hcl.nx.here j hj.1, fun m i hm hi hl => hcl.nx.root m i hm hi hl.1, fun i hi hz hl => hcl.nx.var i hi hz hl.1, fun i r hi he ht hl => hcl.nx.edge i r (fun hl2 => hi ⟨hl2, Nat.zero_le _⟩) he ht hl.1⟩, fun j hj => hcl.got j hj.1⟩
    · have := (c1.nx.here j h1).1
      have := hok.s.n
      omega
    · rw [x3] at hj; exact absurd hj (Nat.not_lt_zero _)
  · refine ⟨fun hx => by omega, fun _ => ⟨hcl, o1, by rw [x3]; exact o2, by rw [x3]; exact o3⟩, fun hx => by omega⟩
theorem Fd.step {k : Col} {F : List Rf} (h : Fd L G D k F) (hok : k.Ok) (hp : k.s.M.K.ph ≠ 0) (room : Bool) :
    ((k.stepR room).c.s.M.K.ph ≠ 0 → Fd L G D (k.stepR room).c ((k.stepR room).more F)) ∧ ((k.stepR room).c.s.M.K.ph = 0 → FdEnd L G D (k.stepR room).c ((k.stepR room).more F)) := by
  have h5' := hok.s.m.ph
  unfold Col.stepR CyRes.more
  rw [if_neg hp]
  by_cases h4 : k.s.M.K.ph = 4
  · rw [if_pos h4]
    have hd := h.discover hok h4
    have hd0 : k.discover.s.M.K.ph ≠ 0 := by
      obtain ⟨_, _, _, _, _, _, _, d8⟩ := Col.discover_ok hok h4
      rcases d8 with ⟨_, x, _⟩ | ⟨_, x, _⟩ <;> omega
    by_cases hl : (k.s.lostAt k.C.at').2 = true
    · rw [if_pos hl] at hd ⊢
      by_cases hr : room = true
      · rw [if_pos hr]
        dsimp only
        rw [if_pos rfl]
        exact ⟨fun _ => hd, fun hx => absurd hx hd0⟩
      · rw [if_neg hr]
        exact ⟨fun _ => h, fun hx => absurd hx hp⟩
    · rw [if_neg hl] at hd ⊢
      exact ⟨fun _ => hd, fun hx => absurd hx hd0⟩
  rw [if_neg h4]
  by_cases h5 : k.s.M.K.ph = 5
  · rw [if_pos h5]
    obtain ⟨c1, c2, c3, c4⟩ := h.a5 h5
    have hnx := hok.a5 h5
    have hnA : k.C.S.next < k.s.A.H.T.n := by rw [hok.s.n]; exact hnx
    -- behind the slot that is swept
    have key : Cl (fun j => L j ∧ k.C.S.next + 1 ≤ j) G D (k.C.S.stepR k.s).s ∧ ∀ j, L j → j < k.C.S.next + 1 → Gone (k.C.S.stepR k.s).s.A.H j (G j) := by
      refine ⟨?_, fun j h1 h2 => ?_⟩
      · unfold Sw.stepR
        split
        · rename_i hc
          have hnl : ¬ L k.C.S.next := fun hl => by
            obtain ⟨_, b2, _, _⟩ := c1.nx.here _ ⟨hl, Nat.le_refl _⟩
            rcases hc with hc | hc
            · exact c1.got _ ⟨hl, Nat.le_refl _⟩ (.inl hc)
            · exact hc b2
          have hiff : ∀ j, L j ∧ k.C.S.next + 1 ≤ j ↔ L j ∧ k.C.S.next ≤ j := fun j => ⟨fun h => ⟨h.1, by omega⟩, fun h => ⟨h.1, by
            rcases Nat.lt_or_ge k.C.S.next j with hlt | hge
            · exact hlt
            · have : j = k.C.S.next := by omega
              rw [this] at h; exact absurd h.1 hnl⟩⟩
          have e : (fun j => L j ∧ k.C.S.next + 1 ≤ j) = (fun j => L j ∧ k.C.S.next ≤ j) := funext fun j => propext (hiff j)
          rw [e]; exact c1
        · rename_i hc
          have h0 : k.s.M.P.c k.C.S.next = 0 := Decidable.not_not.1 (fun hx => hc (.inl hx))
          have h1 : k.s.A.H.T.st k.C.S.next = 1 := Decidable.not_not.1 (fun hx => hc (.inr hx))
          have := c1.free hok.s hnA h1 h0
          have e : (fun j => L j ∧ k.C.S.next + 1 ≤ j) = (fun j => (L j ∧ k.C.S.next ≤ j) ∧ j ≠ k.C.S.next) := funext fun j => propext ⟨fun h => ⟨⟨h.1, by omega⟩, by omega⟩, fun h => ⟨h.1.1, by omega⟩⟩
          rw [e]; exact this
      · rcases Nat.lt_succ_iff_lt_or_eq.1 h2 with h2 | rfl
        · exact Sw.step_gone hok.s hnx (c4 j h1 h2)
        · obtain ⟨b1, b2, b3, b4⟩ := c1.nx.here _ ⟨h1, Nat.le_refl _⟩
          have hc0 : k.s.M.P.c k.C.S.next = 0 := Decidable.not_not.1 (fun hx => c1.got _ ⟨h1, Nat.le_refl _⟩ (.inl hx))
          unfold Sw.stepR
          rw [if_neg (by rintro (h | h); exact h hc0; exact h b2)]
          have := (free_tb hnA b2).2
          rw [b3] at this
          exact this
    obtain ⟨k1, k2⟩ := key
    obtain ⟨_, _, _, _, sA, d8⟩ := Col.sweep_ok hok h5
    dsimp only
    rw [if_neg (by decide)]
    rcases d8 with ⟨x1, x2, x3⟩ | ⟨x1, x2, x3, _, _⟩
    · refine ⟨fun hx => absurd x2 hx, fun _ => ⟨c2, c3, fun j hj => ?_⟩⟩
      rw [sA]
      refine k2 j hj ?_
      rcases Nat.lt_or_ge j (k.C.S.next + 1) with hlt | hge
      · exact hlt
      · have := (c1.nx.here j ⟨hj, by omega⟩).1
        have := hok.s.n
        omega
    · refine ⟨fun _ => ⟨fun hx => by omega, fun hx => by omega, fun _ => ⟨?_, c2, c3, ?_⟩⟩, fun hx => by omega⟩
      · rw [x3]
        unfold Col.sweep
        obtain ⟨s1, s2, s3, s4, s5⟩ := Sw.step_all hok.s hnx
        rw [if_neg (by have := hok.sz; omega)]
        exact k1
      · rw [x3, sA]; exact k2
  rw [if_neg h5]
  have h3 : k.s.M.K.ph ≤ 3 := by omega
  obtain ⟨c1, rfl⟩ := h.a3 h3
  obtain ⟨_, _, m3, _, _, _, _, m8⟩ := Col.mark_ok hok (by omega)
  dsimp only
  rw [if_neg (by decide)]
  refine ⟨fun _ => ⟨fun _ => ⟨c1.step hok.s, rfl⟩, fun hx => ⟨c1.step hok.s, List.Pairwise.nil, (fun x hx => by cases hx), fun j _ _ hj => ?_⟩, fun hx => by omega⟩, fun hx => by omega⟩
  rw [m8 hx] at hj
  exact absurd hj (Nat.not_lt_zero _)
end Go.Proofs.YtnjgkhgdgpahfaaGreat

/- Plain laws of collectors: all cycles that have begun, or are asked for, end in time. -/
namespace Go.Proofs.YtnjgkhgdgpahfaaGreat
open Go.RowKit
set_option linter.unusedVariables false
set_option linter.unusedSimpArgs false

theorem Col.step_begun {c : Col} (h : c.Ok) (room : Bool) : (c.stepR room).c.C.begun ≤ c.C.begun + 1 := by
  unfold Col.stepR
  split
  · dsimp only
    split
    · exact Nat.le_refl _
    · omega
  split
  · rename_i h4
    have := (Col.discover_ok h h4).2.2.1
    split
    · split
      · dsimp only; omega
      · dsimp only; omega
    · dsimp only; omega
  split
  · rename_i h5
    have := (Col.sweep_ok h h5).2.2.1
    dsimp only; omega
  · rename_i h0 h4 h5
    have := (Col.mark_ok h (by have := h.s.m.ph; omega)).2.2.2.2.1
    dsimp only; omega
end Go.Proofs.YtnjgkhgdgpahfaaGreat
