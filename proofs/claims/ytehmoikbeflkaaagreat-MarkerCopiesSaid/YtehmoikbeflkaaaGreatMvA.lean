/- Plain laws of chapter 24's systems: what a turn does; marking is safe and precise. -/
import Derived.Test.YtehmoikbeflkaaaGreatMwB
import Derived.Test.YtehmoikbeflkaaaGreatRcM
import Derived.Test.YtehmoikbeflkaaaGreatPrA
namespace Go.Proofs.YtehmoikbeflkaaaGreat
set_option linter.unusedVariables false
set_option linter.unusedSimpArgs false

theorem freeds_n (A : Ar) (l : List Rf) : (freeds A l).H.T.n = A.H.T.n := by
  induction l generalizing A with
  | nil => rfl
  | cons r l ih => exact (ih _).trans (Ar.freeR_n A r).1
theorem closed24 {A : Ar} (hok : A.Ok) : thrE A.H (srt A.rq.keys) = 0 ∧ closB A.H ((srt A.rq.keys).filter (·.nz)) = true := by
  refine ⟨thrE_of fun r hr _ => rq_there (mem_srt.1 hr), ?_⟩
  unfold closB
  rw [List.all_eq_true]
  intro r hr
  rw [List.all_eq_true]
  intro c hc
  have hk : c ∈ A.rq.keys := (explQ_mem orig_there).2 (.step ((explQ_mem orig_there).1 (mem_srt.1 (List.mem_filter.1 hr).1)) hc)
  exact decide_eq_true (List.mem_filter.2 ⟨mem_srt.2 hk, There.nz hok (rq_there hk)⟩)
/-! a sweep: what is not marked is freed, in order -/
def Sys.white (s : Sys) (l : List Rf) : List Rf := l.filter (fun r => s.M.P.c r.s.toNat == 0)
def Sys.swepts (s : Sys) (l : List Rf) : Sys := ⟨freeds s.A (s.white l), s.M⟩
theorem white_lost {s : Sys} (h : Safe s) (hp : 4 ≤ s.M.K.ph) {l : List Rf} (hl : ∀ r ∈ l, r ∈ s.A.H.T.tk) : ∀ r ∈ s.white l, There s.A.H r ∧ ¬ Rch s.A r := fun r hr => by
  obtain ⟨h1, h2⟩ := List.mem_filter.1 hr
  exact ⟨(tk_iff rfl).1 (hl r h1), fun hx => h.p5 hp r hx (by simpa using h2)⟩
theorem white_frd {s : Sys} (hok : s.Ok) (h : Safe s) (hp : 4 ≤ s.M.K.ph) {l : List Rf} (hl : ∀ r ∈ l, r ∈ s.A.H.T.tk) (hn : l.Nodup) : Frd s.A (s.white l) (s.swepts l).A := by
  have := frd_take hok.a h.nd (white_lost h hp hl) (hn.filter _) _ (Nat.le_refl _)
  rwa [List.take_length] at this
theorem swepts_ok {s : Sys} (hok : s.Ok) (h : Safe s) (hp : 4 ≤ s.M.K.ph) {l : List Rf} (hl : ∀ r ∈ l, r ∈ s.A.H.T.tk) (hn : l.Nodup) : (s.swepts l).Ok ∧ Safe (s.swepts l) := by
  have hf := white_frd hok h hp hl hn
  refine ⟨⟨hf.ok, hok.m, (freeds_n _ _).trans hok.n, hf.many.trans hok.k, hok.g⟩, ⟨h.rng, h.full, frd_nd h.nd (white_lost h hp hl) hf, fun hx => ?_, fun hx => ?_, fun _ r hr => h.p5 hp r ((hf.rc r).1 hr)⟩⟩
  · have hx' : s.M.K.ph ≤ 1 := hx; omega
  · have hx' : s.M.K.ph = 2 ∨ s.M.K.ph = 3 := hx; omega
theorem swepts_no {s : Sys} {l : List Rf} {k : Nat} {r : Rf} (hr : l[k]? = some r) (hc : s.M.P.c r.s.toNat ≠ 0) : s.swepts (l.take (k + 1)) = s.swepts (l.take k) := by
  unfold Sys.swepts Sys.white
  rw [List.take_add_one, hr, List.filter_append]
  simp [hc]
theorem swepts_yes {s : Sys} (hok : s.Ok) (h : Safe s) (hp : 4 ≤ s.M.K.ph) {k : Nat} {r : Rf} (hr : s.A.H.T.tk[k]? = some r) (hc : s.M.P.c r.s.toNat = 0) :
    ((s.swepts (s.A.H.T.tk.take k)).A.freeR r) = ((s.swepts (s.A.H.T.tk.take (k + 1))).A, 0) := by
  have e : s.swepts (s.A.H.T.tk.take (k + 1)) = ⟨((s.swepts (s.A.H.T.tk.take k)).A.freeR r).1, s.M⟩ := by
    unfold Sys.swepts Sys.white
    rw [List.take_add_one, hr, List.filter_append]
    rw [show (some r).toList.filter (fun r => s.M.P.c r.s.toNat == 0) = [r] by simp [hc], freeds_snoc]
  rw [e]
  have hf := white_frd hok h hp (l := s.A.H.T.tk.take k) (fun r hr => List.mem_of_mem_take hr) ((tk_nd _).sublist (List.take_sublist _ _))
  have hnt : r ∉ s.white (s.A.H.T.tk.take k) := fun hm => by
    obtain ⟨j, hj, he⟩ := List.getElem_of_mem (List.mem_filter.1 hm).1
    have hjk : j < k := by simp at hj; omega
    have h1 : s.A.H.T.tk[j]? = s.A.H.T.tk[k]? := by rw [hr, ← he, List.getElem_take, List.getElem?_eq_getElem]
    have hk : k < s.A.H.T.tk.length := (List.getElem?_eq_some_iff.1 hr).1
    have := (List.getElem?_inj (show j < _ by omega) (tk_nd _)).1 h1
    omega
  have ht : There (s.swepts (s.A.H.T.tk.take k)).A.H r := (hf.th r).2 ⟨(tk_iff rfl).1 (List.mem_of_getElem? hr), hnt⟩
  exact Prod.ext rfl (by rw [freeR_of ht])
theorem put_white {P : Pt} {i : Nat} (h : P.c i = 0) : P.put i 0 = P := by
  unfold Pt.put
  have : updf P.c i 0 = P.c := by
    funext j
    by_cases ej : j = i
    · subst ej; rw [updf_same, h]
    · rw [updf_ne _ _ ej]
  rw [this]
theorem freed_white {M : Mk} {r : Rf} (h0 : 0 ≤ r.s) (h1 : r.s < M.P.n) (hc : M.P.c r.s.toNat = 0) : M.freedR r.s = (M, 0) := by
  unfold Mk.freedR
  rw [if_neg (by omega), put_white hc]
/-! what a turn does -/
def Sys.coll (s : Sys) : Sys :=
  if s.M.K.ph = 0 then s.begun else if s.M.K.ph = 4 then ⟨s.A, s.M.goR.1⟩ else if s.M.K.ph = 5 then ⟨(s.swepts s.A.H.T.tk).A, s.M.goR.1⟩ else s.step
def Tv.turn (x : Tv) (s : Sys) : Sys :=
  if x.kind < 160 then (x.mo s).doR s else if x.kind < 200 then ⟨s.A, (s.M.ackR s.A (x.m % s.M.K.many : Nat)).M⟩ else s.coll
def Tv.lost (x : Tv) (s : Sys) (l : List Rf) : List Rf := if 200 ≤ x.kind ∧ s.M.K.ph = 0 then s.A.lostL else l
structure G24 (n k i : Nat) (s : Sys) : Prop where
  ok : s.Ok
  safe : Safe s
  cy : s.M.K.cy ≤ i
  clean : s.M.K.ph = 0 → ∀ j, ¬ Got s.M j
  n : s.M.P.n = n
  k : s.M.K.many = k
  sn : ∀ j, s.M.K.seen j = true → j < s.M.K.many
theorem G24.new {n k : Nat} (n1 : 1 ≤ n) (n2 : n ≤ 256) (k1 : 1 ≤ k) (k4 : k ≤ 4) (st q : Nat) : G24 n k 0 (Sys.new4 n k st q) := by
  refine ⟨⟨Ar.Ok.new n1 n2 k1 k4 (by omega) (by omega), Mk.Ok.new n1 n2 k1 k4, rfl, rfl, ⟨fun _ h => absurd h (Nat.not_lt_zero _), fun _ _ h => absurd h (Nat.not_lt_zero _)⟩⟩, ?_, Nat.le_refl _, fun _ j h => ?_, rfl, rfl, fun _ h => by cases h⟩
  · have hnr : ∀ r, ¬ Rch (Sys.new4 n k st q).A r := by
      intro r hr
      induction hr with
      | root h1 h2 => exact absurd h2 (Nat.not_lt_zero _)
      | var h1 h2 => cases h2
      | field _ _ _ ih => exact ih
    refine ⟨fun _ => .inl rfl, fun _ => Nat.zero_le _, fun r hr => absurd hr (hnr r), fun _ j h => ?_, fun h => ?_, fun _ r hr => absurd hr (hnr r)⟩
    · have h' : (0 : Int) = 2 := h
      cases h'
    · have h' : (0 : Nat) = 2 ∨ (0 : Nat) = 3 := h
      omega
  · rcases h with h | ⟨i, hi, h⟩
    · exact h rfl
    · cases h
theorem G24.mono {n k i j : Nat} {s : Sys} (h : G24 n k i s) (hij : i ≤ j) : G24 n k j s := ⟨h.ok, h.safe, Nat.le_trans h.cy hij, h.clean, h.n, h.k, h.sn⟩
theorem G24.mo {n k i : Nat} {s : Sys} (h : G24 n k i s) (x : Tv) : G24 n k i ((x.mo s).doR s) := by
  have hn := (x.mo s).next h.ok
  have hw : (x.mo s).who < s.A.many := by rw [x.mo_who, h.ok.k]; exact Nat.mod_lt _ h.ok.m.k1
  refine ⟨hn.ok, (x.mo s).safe h.ok h.safe hw, by rw [hn.K]; exact h.cy, fun h0 => ?_, by rw [hn.n]; exact h.n, by rw [hn.K]; exact h.k, by rw [hn.K]; exact h.sn⟩
  rw [hn.K] at h0
  have told : ∀ (R : Res) (j : Int), (Sys.told R s j).M = s.M := fun R j => by
    unfold Sys.told
    dsimp only
    split
    · unfold Mk.wroteR
      split
      · rfl
      split
      · rfl
      · have hb : ∀ q, s.M.K.bar q = false := fun q => by unfold Ck.bar; rw [if_neg (by omega), decide_eq_false (by omega)]
        rw [hb]; rfl
    · rfl
  have hM : ((x.mo s).doR s).M = s.M := by
    cases x.mo s with
    | make q n hd =>
      show (if (s.A.makeR q n hd).e = 0 then (s.M.madeR (s.A.makeR q n hd).now).1 else s.M) = _
      split
      · unfold Mk.madeR
        split
        · rfl
        · rw [if_neg (by omega)]
      · rfl
    | load q i f => rfl
    | store q i f l => exact told _ _
    | drop q i => rfl
    | put q i g => exact told _ _
    | get q g => rfl
  rw [hM]
  exact h.clean h0
theorem G24.ack {n k i : Nat} {s : Sys} (h : G24 n k i s) (m : Int) : G24 n k i ⟨s.A, (s.M.ackR s.A m).M⟩ := by
  obtain ⟨a1, a2, a3, a4, a5, _⟩ := Sys.ack_next h.ok m
  refine ⟨a1, safe_ack h.safe m, by dsimp only; rw [a3]; exact h.cy, fun h0 => ?_, a5.trans h.n, a4.trans h.k, ackR_sn s.A m h.sn⟩
  dsimp only at h0 ⊢
  rw [a2] at h0
  have e : (s.M.ackR s.A m).M = s.M := by
    unfold Mk.ackR
    split
    · rfl
    rw [if_pos (by omega)]
  rw [e]; exact h.clean h0
theorem G24.acks {n k i : Nat} {s : Sys} (h : G24 n k i s) : ∀ j, G24 n k i (s.acks j)
  | 0 => h
  | j + 1 => (h.acks j).ack j
theorem coll_step {s : Sys} (h : ¬ (s.M.K.ph = 0 ∨ s.M.K.ph = 4 ∨ s.M.K.ph = 5)) : s.coll = s.step := by
  unfold Sys.coll
  rw [if_neg (by omega), if_neg (by omega), if_neg (by omega)]
theorem step_K {s : Sys} (hok : s.Ok) (hp : s.M.K.ph = 1 ∨ s.M.K.ph = 2 ∨ s.M.K.ph = 3) : s.step.M.K = s.M.K ∨ s.step.M.K = s.M.K.go := stepR_K hok.m hok.g s.A hp
theorem G24.coll {n k i : Nat} {s : Sys} (h : G24 n k i s) : G24 n k (i + 1) s.coll := by
  have hp5 := h.ok.m.ph
  by_cases h0 : s.M.K.ph = 0
  · have e : s.coll = s.begun := by unfold Sys.coll; rw [if_pos h0]
    have eb : s.M.beginR.1 = { s.M with K := s.M.K.to 1 } := by unfold Mk.beginR; rw [if_pos h0]
    rw [e]
    refine ⟨h.ok.begun, safe_begin h.safe, ?_, fun hx => ?_, ?_, ?_, fun j hj => ?_⟩
    · show s.M.beginR.1.K.cy ≤ _; rw [eb]; have := h.cy; show s.M.K.cy ≤ _; omega
    · have hx' : s.M.beginR.1.K.ph = 0 := hx
      rw [eb] at hx'; cases hx'
    · show s.M.beginR.1.P.n = _; rw [eb]; exact h.n
    · show s.M.beginR.1.K.many = _; rw [eb]; exact h.k
    · have hj' : s.M.beginR.1.K.seen j = true := hj
      rw [eb] at hj'; cases hj'
  by_cases h4 : s.M.K.ph = 4
  · have e : s.coll = ⟨s.A, s.M.goR.1⟩ := by unfold Sys.coll; rw [if_neg h0, if_pos h4]
    have eg := goR_4 h4
    rw [e]
    refine ⟨h.ok.go4 h4, safe_go h.ok h.safe, ?_, fun hx => ?_, ?_, ?_, fun j hj => ?_⟩
    · show s.M.goR.1.K.cy ≤ _; rw [eg]; have := h.cy; show (if s.M.K.ph = 5 then s.M.K.cy + 1 else s.M.K.cy) ≤ _; split <;> omega
    · have hx' : s.M.goR.1.K.ph = 0 := hx
      rw [eg] at hx'; have : (s.M.K.ph + 1) % 6 = 0 := hx'; omega
    · show s.M.goR.1.P.n = _; rw [eg]; exact h.n
    · show s.M.goR.1.K.many = _; rw [eg]; exact h.k
    · have hj' : s.M.goR.1.K.seen j = true := hj
      rw [eg] at hj'; cases hj'
  by_cases h5 : s.M.K.ph = 5
  · have e : s.coll = ⟨(s.swepts s.A.H.T.tk).A, (s.swepts s.A.H.T.tk).M.goR.1⟩ := by unfold Sys.coll; rw [if_neg h0, if_neg h4, if_pos h5]; rfl
    have eg := goR_5 h5
    obtain ⟨w1, w2⟩ := swepts_ok h.ok h.safe (by omega) (fun r hr => hr) (tk_nd s.A.H.T)
    rw [e]
    refine ⟨w1.go5 h5, safe_go w1 w2, ?_, fun hx => ?_, ?_, ?_, fun j hj => ?_⟩
    · show s.M.goR.1.K.cy ≤ _; rw [eg]; have := h.cy; show (if s.M.K.ph = 5 then s.M.K.cy + 1 else s.M.K.cy) ≤ _; split <;> omega
    · show ∀ j, ¬ Got s.M.goR.1 j
      rw [eg]; exact ended_clean _
    · show s.M.goR.1.P.n = _; rw [eg]; exact h.n
    · show s.M.goR.1.K.many = _; rw [eg]; exact h.k
    · have hj' : s.M.goR.1.K.seen j = true := hj
      rw [eg] at hj'; cases hj'
  · rw [coll_step (by omega)]
    obtain ⟨s1, s2, s3⟩ := Sys.step_next h.ok
    have hK := step_K h.ok (by omega)
    refine ⟨s1, safe_step h.ok h.safe, ?_, fun hx => ?_, s3.trans h.n, s2.trans h.k, fun j hj => ?_⟩
    · have := h.cy
      rcases hK with hK | hK <;> rw [hK]
      · omega
      · show (if s.M.K.ph = 5 then s.M.K.cy + 1 else s.M.K.cy) ≤ _; split <;> omega
    · exfalso
      rcases hK with hK | hK <;> rw [hK] at hx
      · omega
      · have : (s.M.K.ph + 1) % 6 = 0 := hx; omega
    · show j < (s.M.stepR s.A).K.many
      rw [s2]
      rcases hK with hK | hK <;> rw [hK] at hj
      · exact h.sn j hj
      · cases hj
theorem G24.turn {n k i : Nat} {s : Sys} (h : G24 n k i s) (x : Tv) : G24 n k (i + 1) (x.turn s) := by
  unfold Tv.turn
  split
  · exact (h.mo x).mono (Nat.le_succ _)
  split
  · exact (h.ack _).mono (Nat.le_succ _)
  · exact h.coll
/-! what was lost when the cycle began is not marked -/
def Pre (l : List Rf) (s : Sys) : Prop := 1 ≤ s.M.K.ph → s.M.K.ph ≤ 4 → ∃ L G D, Cl L G D s ∧ ∀ r ∈ l, 0 ≤ r.s ∧ L r.s.toNat ∧ G r.s.toNat = r.g
theorem Pre.begin {n k i : Nat} {s : Sys} (h : G24 n k i s) (h0 : s.M.K.ph = 0) : Pre s.A.lostL s.begun := fun _ _ => by
  refine ⟨s.lostS, s.A.H.T.gn, fun j => (s.A.H.ob j).h, (Cl.init h.safe (h.clean h0)).begun, fun r hr => ?_⟩
  obtain ⟨h1, h2⟩ := (lost_iff h.safe.nd).1 hr
  obtain ⟨t1, t2, t3, t4, t5⟩ := h1.lt
  refine ⟨t1, ⟨t3, t4, fun hx => h2 ?_⟩, t5⟩
  rw [h1.eta]; exact hx
theorem Pre.turn {n k i : Nat} {s : Sys} {l : List Rf} (h : G24 n k i s) (hp : Pre l s) (x : Tv) : Pre (x.lost s l) (x.turn s) := by
  unfold Tv.lost Tv.turn
  by_cases hk1 : x.kind < 160
  · rw [if_pos hk1, if_neg (by omega)]
    have hn := (x.mo s).next h.ok
    intro p1 p4
    rw [hn.K] at p1 p4
    obtain ⟨L, G, D, hc, hl⟩ := hp p1 p4
    exact ⟨L, G, D, hc.mo h.ok h.safe _, hl⟩
  rw [if_neg hk1]
  by_cases hk2 : x.kind < 200
  · rw [if_pos hk2, if_neg (by omega)]
    obtain ⟨a1, a2, a3, a4, a5, _⟩ := Sys.ack_next h.ok (x.m % s.M.K.many : Nat)
    intro p1 p4
    dsimp only at p1 p4
    rw [a2] at p1 p4
    obtain ⟨L, G, D, hc, hl⟩ := hp p1 p4
    exact ⟨L, G, D, hc.ack h.ok _, hl⟩
  rw [if_neg hk2]
  have hp5 := h.ok.m.ph
  by_cases h0 : s.M.K.ph = 0
  · have e : s.coll = s.begun := by unfold Sys.coll; rw [if_pos h0]
    rw [if_pos ⟨by omega, h0⟩, e]
    exact Pre.begin h h0
  rw [if_neg (fun hx => h0 hx.2)]
  by_cases h4 : s.M.K.ph = 4
  · have e : s.coll = ⟨s.A, s.M.goR.1⟩ := by unfold Sys.coll; rw [if_neg h0, if_pos h4]
    rw [e]
    intro p1 p4
    have p4' : s.M.goR.1.K.ph ≤ 4 := p4
    rw [goR_4 h4] at p4'
    have : (s.M.K.ph + 1) % 6 ≤ 4 := p4'
    omega
  by_cases h5 : s.M.K.ph = 5
  · have e : s.coll = ⟨(s.swepts s.A.H.T.tk).A, s.M.goR.1⟩ := by unfold Sys.coll; rw [if_neg h0, if_neg h4, if_pos h5]
    rw [e]
    intro p1 p4
    have p1' : 1 ≤ s.M.goR.1.K.ph := p1
    rw [goR_5 h5] at p1'
    have : 1 ≤ (s.M.K.ph + 1) % 6 := p1'
    omega
  rw [coll_step (by omega)]
  intro _ _
  obtain ⟨L, G, D, hc, hl⟩ := hp (by omega) (by omega)
  exact ⟨L, G, D, hc.step h.ok, hl⟩
theorem turn_ends {n k i : Nat} {s : Sys} (h : G24 n k i s) (x : Tv) (h3 : s.M.K.ph < 4) : (x.turn s).M.K.ph ≤ 4 := by
  unfold Tv.turn
  split
  · rw [((x.mo s).next h.ok).K]; omega
  split
  · dsimp only; rw [(Sys.ack_next h.ok (x.m % s.M.K.many : Nat)).2.1]; omega
  · by_cases h0 : s.M.K.ph = 0
    · have e : s.coll = s.begun := by unfold Sys.coll; rw [if_pos h0]
      have eb : s.M.beginR.1 = { s.M with K := s.M.K.to 1 } := by unfold Mk.beginR; rw [if_pos h0]
      rw [e]
      show s.M.beginR.1.K.ph ≤ 4
      rw [eb]; show 1 ≤ 4; omega
    · rw [coll_step (by omega)]
      rcases step_K h.ok (by omega) with hK | hK <;> rw [hK]
      · omega
      · show (s.M.K.ph + 1) % 6 ≤ 4; omega
theorem Pre.done {n k i : Nat} {s : Sys} {l : List Rf} (h : G24 n k i s) (hp : Pre l s) (h4 : s.M.K.ph = 4) : ∀ r ∈ l, ckV s.A.H.T r.s r.g = 0 ∧ s.M.markedR r.s = (false, 0) := fun r hr => by
  obtain ⟨L, G, D, hc, hl⟩ := hp (by omega) (by omega)
  obtain ⟨l0, l1, l2⟩ := hl r hr
  obtain ⟨b1, b2, b3, b4⟩ := hc.nx.here _ l1
  have hcol : s.M.P.c r.s.toNat = 0 := Decidable.not_not.1 fun hx => hc.got _ l1 (.inl hx)
  refine ⟨There.of l0 (by omega) b2 (b3.trans l2), ?_⟩
  unfold Mk.markedR
  rw [if_neg (by have := h.ok.n; omega), hcol]
  rfl
theorem G24.all {n k i : Nat} {s : Sys} (h : G24 n k i s) : ∀ r ∈ srt s.A.rq.keys, ckV s.A.H.T r.s r.g = 0 ∧ (s.M.markedR r.s).2 = 0 ∧ (4 ≤ s.M.K.ph → (s.M.markedR r.s).1 = true) := fun r hr => by
  have hr := mem_srt.1 hr
  have ht := rq_there hr
  obtain ⟨t1, t2, t3, t4, t5⟩ := ht.lt
  refine ⟨ht, ?_, fun h4 => ?_⟩
  · unfold Mk.markedR; rw [if_neg (by have := h.ok.n; omega)]
  · have := h.safe.p5 h4 r ((rq_iff h.safe.nd).1 hr)
    unfold Mk.markedR; rw [if_neg (by have := h.ok.n; omega)]
    simpa using this
end Go.Proofs.YtehmoikbeflkaaaGreat

/- Plain laws of chapter 24's systems: a cycle without mutators ends, and what was lost is gone then. -/
namespace Go.Proofs.YtehmoikbeflkaaaGreat
set_option linter.unusedVariables false
set_option linter.unusedSimpArgs false

def Sys.rnd (s : Sys) : Sys := (s.acks s.M.K.many).coll
theorem G24.rnd {n k i : Nat} {s : Sys} (h : G24 n k i s) : G24 n k (i + 1) s.rnd := (h.acks _).coll
def Sys.nu (s : Sys) : Nat :=
  if s.M.K.ph = 0 then 0 else if s.M.K.ph = 1 then s.M.P.n + 5 else if s.M.K.ph = 2 then s.M.P.n + 4 else if s.M.K.ph = 3 then 3 + (s.M.P.n - blkN s.M.P.c s.M.P.n)
  else if s.M.K.ph = 4 then 2 else 1
theorem Sys.nu_le (s : Sys) : s.nu ≤ s.M.P.n + 5 := by
  unfold Sys.nu
  split; · omega
  split; · omega
  split; · omega
  split; · omega
  split <;> omega
theorem nu_0 {s : Sys} (h : s.M.K.ph = 0) : s.nu = 0 := by unfold Sys.nu; rw [if_pos h]
theorem nu_4 {s : Sys} (h : s.M.K.ph = 4) : s.nu = 2 := by unfold Sys.nu; rw [if_neg (by omega), if_neg (by omega), if_neg (by omega), if_neg (by omega), if_pos h]
theorem nu_5 {s : Sys} (h : s.M.K.ph = 5) : s.nu = 1 := by unfold Sys.nu; rw [if_neg (by omega), if_neg (by omega), if_neg (by omega), if_neg (by omega), if_neg (by omega)]
theorem nu_3 {s : Sys} (h : s.M.K.ph = 3) : s.nu = 3 + (s.M.P.n - blkN s.M.P.c s.M.P.n) := by unfold Sys.nu; rw [if_neg (by omega), if_neg (by omega), if_neg (by omega), if_pos h]
theorem nu_2 {s : Sys} (h : s.M.K.ph = 2) : s.nu = s.M.P.n + 4 := by unfold Sys.nu; rw [if_neg (by omega), if_neg (by omega), if_pos h]
theorem nu_1 {s : Sys} (h : s.M.K.ph = 1) : s.nu = s.M.P.n + 5 := by unfold Sys.nu; rw [if_neg (by omega), if_pos h]
theorem coll_4 {s : Sys} (h : s.M.K.ph = 4) : s.coll = ⟨s.A, { s.M with K := s.M.K.go }⟩ := by unfold Sys.coll; rw [if_neg (by omega), if_pos h, goR_4 h]
theorem coll_5 {s : Sys} (h : s.M.K.ph = 5) : s.coll = ⟨(s.swepts s.A.H.T.tk).A, s.M.endedR⟩ := by unfold Sys.coll; rw [if_neg (by omega), if_neg (by omega), if_pos h, goR_5 h]
theorem coll_0 {s : Sys} (h : s.M.K.ph = 0) : s.coll = s.begun := by unfold Sys.coll; rw [if_pos h]
theorem rnd_idle {s : Sys} (hp : ¬ (s.M.K.ph = 1 ∨ s.M.K.ph = 2)) : s.rnd = s.coll := by unfold Sys.rnd; rw [acks_idle hp]
theorem begun_ph {s : Sys} (h : s.M.K.ph = 0) : s.begun.M.K.ph = 1 := by
  have eb : s.M.beginR.1 = { s.M with K := s.M.K.to 1 } := by unfold Mk.beginR; rw [if_pos h]
  show s.M.beginR.1.K.ph = 1
  rw [eb]; rfl
theorem rnd_shake {n k i : Nat} {s : Sys} (h : G24 n k i s) (hp : s.M.K.ph = 1 ∨ s.M.K.ph = 2) : s.rnd.M.K.ph = s.M.K.ph + 1 := by
  obtain ⟨a1, a2, a3, a4, a5, a6, a7⟩ := Sys.acks_next h.ok s.M.K.many
  have hall : (s.acks s.M.K.many).M.K.all = true := by
    refine Ck.all_of (fun i => ?_)
    rw [Sys.acks_seen hp h.ok _ (Nat.le_refl _), a5]
    have := h.sn i
    cases e : s.M.K.seen i
    · simp
    · have := this e
      simp [this]
  have hrd : (s.acks s.M.K.many).M.K.ready = true := by
    show (((s.acks s.M.K.many).M.K.ph == 1 || (s.acks s.M.K.many).M.K.ph == 2) && (s.acks s.M.K.many).M.K.all) = true
    rw [hall, a3]
    rcases hp with e | e <;> rw [e] <;> rfl
  have hK : (s.acks s.M.K.many).step.M.K = (s.acks s.M.K.many).M.K.go := by
    show ((s.acks s.M.K.many).M.stepR (s.acks s.M.K.many).A).K = _
    unfold Mk.stepR
    by_cases e1 : s.M.K.ph = 1
    · rw [if_pos (by omega), if_pos hrd]; rfl
    · rw [if_neg (by omega), if_pos (by omega), if_pos hrd]
  unfold Sys.rnd
  rw [coll_step (by omega), hK]
  show ((s.acks s.M.K.many).M.K.ph + 1) % 6 = _
  omega
theorem rnd_nu {n k i : Nat} {s : Sys} (h : G24 n k i s) (hp : s.M.K.ph ≠ 0) : s.rnd.nu < s.nu := by
  have hp5 := h.ok.m.ph
  have hn' := h.rnd.n.trans h.n.symm
  by_cases h4 : s.M.K.ph = 4
  · rw [rnd_idle (by omega), coll_4 h4, nu_4 h4, nu_5 (by show (s.M.K.ph + 1) % 6 = 5; omega)]
    omega
  by_cases h5 : s.M.K.ph = 5
  · rw [rnd_idle (by omega), coll_5 h5, nu_5 h5, nu_0 (by show (s.M.K.ph + 1) % 6 = 0; omega)]
    omega
  by_cases h3 : s.M.K.ph = 3
  · rw [rnd_idle (by omega)] at hn' ⊢
    rw [coll_step (by omega)] at hn' ⊢
    obtain ⟨_, _, g3⟩ := gs_trace (H := s.A.H) h.ok.m h.ok.g
    have es : s.M.stepR s.A = s.M.traceR s.A.H := by unfold Mk.stepR; rw [if_neg (by omega), if_neg (by omega), if_pos h3]
    rw [nu_3 h3]
    rcases g3 with ⟨gk, gn⟩ | ⟨gk, gn, gb⟩
    · have p4 : s.step.M.K.ph = 4 := by
        show (s.M.stepR s.A).K.ph = 4
        rw [es, gk]; show (s.M.K.ph + 1) % 6 = 4; omega
      rw [nu_4 p4]; omega
    · have p3 : s.step.M.K.ph = 3 := by
        show (s.M.stepR s.A).K.ph = 3
        rw [es, gk]; exact h3
      have hb : blkN s.M.P.c s.M.P.n < blkN s.step.M.P.c s.M.P.n := by
        show _ < blkN (s.M.stepR s.A).P.c _
        rw [es]; exact gb
      have hle := blkN_le s.step.M.P.c s.M.P.n
      rw [nu_3 p3, hn']
      omega
  have hs := rnd_shake h (by omega)
  by_cases h1 : s.M.K.ph = 1
  · rw [nu_1 h1, nu_2 (by omega), hn']; omega
  · have h2 : s.M.K.ph = 2 := by omega
    rw [nu_2 h2, nu_3 (by omega), hn']
    have := blkN_le s.rnd.M.P.c s.M.P.n
    omega
def Alone (s0 t : Sys) : Prop := (t.A = s0.A ∧ t.M.K.ph ≠ 0 ∧ Pre s0.A.lostL t ∧ (t.M.K.ph = 5 → ∀ r ∈ s0.A.lostL, t.M.P.c r.s.toNat = 0)) ∨ (t.M.K.ph = 0 ∧ t.A.lostL = [])
theorem Alone.begin {n k i : Nat} {s : Sys} (h : G24 n k i s) (h0 : s.M.K.ph = 0) : Alone s s.rnd := by
  rw [rnd_idle (by omega), coll_0 h0]
  have hp := begun_ph h0
  exact .inl ⟨rfl, by omega, Pre.begin h h0, fun h5 => by omega⟩
theorem Alone.rnd {n k i : Nat} {s0 t : Sys} (h : G24 n k i t) (ha : Alone s0 t) (hp : t.M.K.ph ≠ 0) : Alone s0 t.rnd := by
  have hp5 := h.ok.m.ph
  rcases ha with ha | ⟨a1, _⟩
  rotate_left
  · exact absurd a1 hp
  obtain ⟨a1, a2, a3, a4⟩ := ha
  by_cases h4 : t.M.K.ph = 4
  · rw [rnd_idle (by omega), coll_4 h4]
    have e5 : ({ t.M with K := t.M.K.go } : Mk).K.ph = 5 := by show (t.M.K.ph + 1) % 6 = 5; omega
    refine .inl ⟨a1, by dsimp only at e5 ⊢; omega, fun p1 p4 => by dsimp only at e5 p4; omega, fun _ r hr => ?_⟩
    obtain ⟨L, G, D, hc, hl⟩ := a3 (by omega) (by omega)
    exact Decidable.not_not.1 fun hx => hc.got _ (hl r hr).2.1 (.inl hx)
  by_cases h5 : t.M.K.ph = 5
  · rw [rnd_idle (by omega), coll_5 h5]
    refine .inr ⟨by show (t.M.K.ph + 1) % 6 = 0; omega, ?_⟩
    have hf := white_frd h.ok h.safe (by omega) (l := t.A.H.T.tk) (fun r hr => hr) (tk_nd _)
    have hnd := frd_nd h.safe.nd (white_lost h.safe (by omega) (l := t.A.H.T.tk) (fun r hr => hr)) hf
    refine List.eq_nil_iff_forall_not_mem.2 fun q hq => ?_
    obtain ⟨q1, q2⟩ := (lost_iff hnd).1 hq
    obtain ⟨q3, q4⟩ := (hf.th q).1 q1
    have hql : q ∈ s0.A.lostL := by
      rw [← a1]
      exact (lost_iff h.safe.nd).2 ⟨q3, fun hx => q2 ((hf.rc q).2 hx)⟩
    refine q4 (List.mem_filter.2 ⟨(tk_iff rfl).2 q3, ?_⟩)
    rw [a4 h5 q hql]; rfl
  · obtain ⟨L, G, D, hc, hl⟩ := a3 (by omega) (by omega)
    obtain ⟨b1, b2, b3, b4, b5, b6, b7⟩ := Sys.acks_next h.ok t.M.K.many
    have hc2 : Cl L G D t.rnd := by
      unfold Sys.rnd
      rw [coll_step (by omega)]
      exact (hc.acks h.ok _).step b1
    have hA : t.rnd.A = s0.A := by
      unfold Sys.rnd
      rw [coll_step (by omega)]
      exact b2.trans a1
    have hph : 1 ≤ t.rnd.M.K.ph ∧ t.rnd.M.K.ph ≤ 4 := by
      unfold Sys.rnd
      rw [coll_step (by omega)]
      rcases step_K b1 (by omega) with hK | hK <;> rw [hK]
      · omega
      · show 1 ≤ ((t.acks t.M.K.many).M.K.ph + 1) % 6 ∧ ((t.acks t.M.K.many).M.K.ph + 1) % 6 ≤ 4
        omega
    exact .inl ⟨hA, by omega, fun _ _ => ⟨L, G, D, hc2, hl⟩, fun h5 => by omega⟩
structure In24 (n k c j : Nat) (s : Sys) : Prop where
  g : G24 n k (120 + 101 * c + j) s
  m : 1 ≤ j → j + s.nu ≤ n + 6
  z : 1 ≤ c → j = 0 → s.M.K.ph = 0
  al : 1 ≤ c → 1 ≤ j → ∃ s0, Alone s0 s
theorem In24.rnd {n k c j : Nat} {s : Sys} (h : In24 n k c j s) (hg : s.M.K.ph ≠ 0 ∨ j = 0) : In24 n k c (j + 1) s.rnd := by
  refine ⟨h.g.rnd, fun _ => ?_, fun _ hj => by omega, fun hc _ => ?_⟩
  · by_cases h0 : s.M.K.ph = 0
    · have hj : j = 0 := by omega
      have hr : s.rnd.M.K.ph = 1 := by rw [rnd_idle (by omega), coll_0 h0]; exact begun_ph h0
      rw [nu_1 hr, h.g.rnd.n]; omega
    · have h1 := rnd_nu h.g h0
      by_cases hj : j = 0
      · have := s.nu_le
        rw [h.g.n] at this; omega
      · have := h.m (by omega); omega
  · by_cases h0 : s.M.K.ph = 0
    · exact ⟨s, Alone.begin h.g h0⟩
    · have hj : 1 ≤ j := by
        rcases Nat.eq_zero_or_pos j with e | e
        · exact absurd (h.z hc e) h0
        · exact e
      obtain ⟨s0, ha⟩ := h.al hc hj
      exact ⟨s0, ha.rnd h.g h0⟩
theorem In24.lt {n k c j : Nat} {s : Sys} (h : In24 n k c j s) (hn : n ≤ 16) : j ≤ 22 := by
  rcases Nat.eq_zero_or_pos j with e | e
  · omega
  · have := h.m e; omega
theorem In24.next {n k c j : Nat} {s : Sys} (h : In24 n k c j s) (hn : n ≤ 16) (hj : 1 ≤ j) (h0 : s.M.K.ph = 0) : In24 n k (c + 1) 0 s ∧ (1 ≤ c → s.A.lostL = []) := by
  have := h.lt hn
  refine ⟨⟨h.g.mono (by omega), fun h => by omega, fun _ _ => h0, fun _ h => by omega⟩, fun hc => ?_⟩
  obtain ⟨s0, ⟨_, a2, _⟩ | ⟨_, a2⟩⟩ := h.al hc hj
  · exact absurd h0 a2
  · exact a2
theorem In24.white {n k c j : Nat} {s : Sys} (h : In24 n k c j s) (h0 : s.M.K.ph = 0) {i : Nat} (hi : i < n) : s.M.markedR i = (false, 0) := by
  have : s.M.P.c i = 0 := Decidable.not_not.1 fun hx => h.g.clean h0 i (.inl hx)
  unfold Mk.markedR
  rw [if_neg (by have := h.g.n; omega), Int.toNat_natCast, this]
  rfl
end Go.Proofs.YtehmoikbeflkaaaGreat
