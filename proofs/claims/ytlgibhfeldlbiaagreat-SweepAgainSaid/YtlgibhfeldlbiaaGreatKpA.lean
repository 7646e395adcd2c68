/- estraylaw25.SweepKeeps: plain laws of sweeping. -/
import Derived.Test.YtlgibhfeldlbiaaGreatNgE
namespace Go.Proofs.YtlgibhfeldlbiaaGreat
set_option linter.unusedVariables false

theorem Ar.storeR_T (A : Ar) (m i f j : Int) : (A.storeR m i f j).A.H.T = A.H.T := by
  unfold Ar.storeR
  split
  · rfl
  split
  · rfl
  split
  · rfl
  · exact Hp.storeR_T _ _ _ _
theorem Ar.dropR_T (A : Ar) (m i : Int) : (A.dropR m i).A.H.T = A.H.T := by
  unfold Ar.dropR
  split
  · rfl
  split <;> rfl
theorem Ar.putR_T (A : Ar) (m i k : Int) : (A.putR m i k).A.H.T = A.H.T := by
  unfold Ar.putR
  split
  · rfl
  split <;> rfl
theorem Ar.pushR_T (A : Ar) (m : Nat) (v : Rf) : (A.pushR m v).A.H.T = A.H.T := by
  unfold Ar.pushR
  split <;> rfl
theorem Ar.getR_T (A : Ar) (m k : Int) : (A.getR m k).A.H.T = A.H.T := by
  unfold Ar.getR
  split
  · rfl
  split
  · rfl
  split
  · rfl
  · exact Ar.pushR_T _ _ _
theorem Ar.loadR_T (A : Ar) (m i f : Int) : (A.loadR m i f).A.H.T = A.H.T := by
  unfold Ar.loadR
  split
  · rfl
  split
  · rfl
  split
  · rfl
  split
  · rfl
  · exact Ar.pushR_T _ _ _
theorem Mk.wroteR_off {M : Mk} (h : M.K.ph = 5) (i : Int) (r q : Rf) : (M.wroteR i r q).1 = M := by
  unfold Mk.wroteR
  split
  · rfl
  split
  · rfl
  split
  · rename_i hb
    unfold Ck.bar at hb
    rw [if_neg (by omega)] at hb
    simp at hb
    omega
  · rfl

/-- what a move does to the slots, in Sweep -/
structure Tame (s t : Sys) : Prop where
  tb : ∀ j, t.A.H.T.gn j = s.A.H.T.gn j ∧ (t.A.H.T.st j = s.A.H.T.st j ∨ (s.A.H.T.st j = 0 ∧ t.A.H.T.st j = 1 ∧ t.M.P.c j ≠ 0))
  c : ∀ j, t.M.P.c j = s.M.P.c j ∨ (s.A.H.T.st j = 0 ∧ t.M.P.c j = 2)
theorem Tame.of {s t : Sys} (h1 : t.A.H.T = s.A.H.T) (h2 : t.M = s.M) : Tame s t :=
  ⟨fun j => by rw [h1]; exact ⟨rfl, .inl rfl⟩, fun j => by rw [h2]; exact .inl rfl⟩
theorem Tame.told {s : Sys} {R : Res} (h1 : R.A.H.T = s.A.H.T) (hp : s.M.K.ph = 5) (k : Int) : Tame s (Sys.told R s k) := by
  refine Tame.of h1 ?_
  unfold Sys.told
  dsimp only
  split
  · exact Mk.wroteR_off hp _ _ _
  · rfl
theorem tame_make {s : Sys} (hok : s.Ok) (hp : s.M.K.ph = 5) (m n : Int) (hd : Bool) : Tame s ⟨(s.A.makeR m n hd).A, if (s.A.makeR m n hd).e = 0 then (s.M.madeR (s.A.makeR m n hd).now).1 else s.M⟩ := by
  have same : ∀ e : Int, e ≠ 0 → Tame s ⟨s.A, if e = 0 then (s.M.madeR Rf.no).1 else s.M⟩ := fun e he => by
    rw [if_neg he]; exact Tame.of rfl rfl
  unfold Ar.makeR
  split
  · exact same 3 (by decide)
  split
  · exact same 2 (by decide)
  split
  · exact same 4 (by decide)
  split
  · exact same 4 (by decide)
  · rename_i i g r hx
    obtain ⟨h1, h2, h3⟩ := Tb.inn_mem (T := s.A.H.T) (s := 0) (k := s.A.H.T.n) (i := i) (g := g) (by rw [hx]; simp)
    have hg := (hok.a.tb i h3).1
    have hM : (s.M.madeR ⟨i, g⟩).1 = { s.M with P := s.M.P.born i } := by
      unfold Mk.madeR
      rw [if_neg (by have := hok.n; dsimp only; omega), if_pos (by omega)]
      show ({ s.M with P := s.M.P.born (i : Int).toNat } : Mk) = _
      rw [Int.toNat_natCast]
    rw [if_pos rfl]
    show Tame s ⟨s.A.made m.toNat i g (Ob.new n hd), (s.M.madeR ⟨i, g⟩).1⟩
    rw [hM]
    have hb : ∀ j, (s.M.P.born i).c j = s.M.P.c j ∨ (j = i ∧ (s.M.P.born i).c j = 2) := fun j => by
      unfold Pt.born
      split
      · by_cases e : j = i
        · subst e; exact .inr ⟨rfl, updf_same _ _ _⟩
        · exact .inl (updf_ne _ _ e)
      · exact .inl rfl
    have hbi : (s.M.P.born i).c i ≠ 0 := by
      unfold Pt.born
      split
      · show updf s.M.P.c i 2 i ≠ 0; rw [updf_same]; decide
      · rename_i h0; exact h0
    refine ⟨fun j => ⟨?_, ?_⟩, fun j => ?_⟩
    · show upd s.A.H.T.gn i g j = _
      unfold upd
      split
      · rename_i e; rw [e, h2]
      · rfl
    · show upd s.A.H.T.st i 1 j = _ ∨ _ ∧ upd s.A.H.T.st i 1 j = 1 ∧ (s.M.P.born i).c j ≠ 0
      unfold upd
      split
      · rename_i e; right; rw [e]; exact ⟨h1, rfl, hbi⟩
      · exact .inl rfl
    · rcases hb j with h | ⟨e, h⟩
      · exact .inl h
      · right; rw [e]; exact ⟨h1, by rw [e] at h; exact h⟩
theorem Mv.tame (x : Mv) {s : Sys} (hok : s.Ok) (hp : s.M.K.ph = 5) (ms : Nat) : Tame s (x.doR s ms) := by
  unfold Mv.doR
  split
  · exact tame_make hok hp _ _ _
  · exact tame_make hok hp _ _ _
  · exact Tame.told (Ar.storeR_T _ _ _ _ _) hp _
  · exact Tame.told (Ar.storeR_T _ _ _ _ _) hp _
  · exact Tame.of (Ar.dropR_T _ _ _) rfl
  · exact Tame.told (Ar.putR_T _ _ _ _) hp _
  · exact Tame.of (Ar.getR_T _ _ _) rfl
  · exact Tame.of (Ar.loadR_T _ _ _ _) rfl

/-- the names in the first k slots that are not marked -/
def Sys.un (s : Sys) (k : Nat) : List Rf := ((s.A.H.T.inn 1 k).map rfOf).filter (fun r => s.M.P.c r.s.toNat == 0)
def Sys.wh (s : Sys) (j : Nat) : Prop := s.A.H.T.st j = 1 ∧ s.M.P.c j = 0
theorem Sys.un_yes {s : Sys} {k : Nat} (h : s.wh k) : s.un (k + 1) = s.un k ++ [⟨k, s.A.H.T.gn k⟩] := by
  unfold Sys.un
  rw [Tb.inn_yes h.1, List.map_append, List.filter_append]
  congr 1
  have : (rfOf (k, s.A.H.T.gn k)).s.toNat = k := Int.toNat_natCast k
  simp only [List.map_cons, List.map_nil, List.filter_cons, List.filter_nil, this, h.2]
  rfl
theorem Sys.un_no {s : Sys} {k : Nat} (h : ¬ s.wh k) : s.un (k + 1) = s.un k := by
  unfold Sys.un
  by_cases h1 : s.A.H.T.st k = 1
  · have h2 : s.M.P.c k ≠ 0 := fun h2 => h ⟨h1, h2⟩
    rw [Tb.inn_yes h1, List.map_append, List.filter_append]
    have : (rfOf (k, s.A.H.T.gn k)).s.toNat = k := Int.toNat_natCast k
    simp only [List.map_cons, List.map_nil, List.filter_cons, List.filter_nil, this]
    rw [show (s.M.P.c k == 0) = false by simpa using h2]
    simp
  · rw [Tb.inn_no h1]
theorem Sys.un_mem {s : Sys} {k : Nat} {r : Rf} (h : r ∈ s.un k) : ∃ j : Nat, j < k ∧ s.wh j ∧ r = ⟨j, s.A.H.T.gn j⟩ := by
  unfold Sys.un at h
  obtain ⟨h1, h2⟩ := List.mem_filter.1 h
  obtain ⟨⟨j, g⟩, h3, rfl⟩ := List.mem_map.1 h1
  obtain ⟨h4, h5, h6⟩ := Tb.inn_mem h3
  have : (rfOf (j, g)).s.toNat = j := Int.toNat_natCast j
  rw [this] at h2
  exact ⟨j, h6, ⟨h4, by simpa using h2⟩, by show (⟨j, g⟩ : Rf) = _; rw [h5]⟩

/-- what holds before each step of the sweep of what s0 was -/
structure Kp (s0 : Sys) (n i : Nat) (s : Sys) (S : Sw) (freed : List Rf) : Prop where
  ok : s.Ok
  safe : Safe s
  ph : s.M.K.ph = 5
  nn : s.M.P.n = n
  S : S = ⟨n, i, freed.length⟩
  fr : freed = s0.un i
  yet : ∀ j, i ≤ j → s0.wh j → s.wh j ∧ s.A.H.T.gn j = s0.A.H.T.gn j
  all : ∀ j, i ≤ j → s.wh j → s0.wh j
  gone : ∀ j, j < i → s0.wh j → s.A.H.T.gn j ≠ s0.A.H.T.gn j ∨ s.A.H.T.st j = 2

theorem Kp.zero {s : Sys} {n : Nat} (h1 : s.Ok) (h2 : Safe s) (h3 : s.M.K.ph = 5) (h4 : s.M.P.n = n) : Kp s n 0 s ⟨n, 0, 0⟩ [] :=
  ⟨h1, h2, h3, h4, rfl, rfl, fun _ _ h => ⟨h, rfl⟩, fun _ _ h => h, fun _ h => absurd h (Nat.not_lt_zero _)⟩
theorem Kp.chk {s0 s : Sys} {n i : Nat} {S : Sw} {fr : List Rf} (h : Kp s0 n i s S fr) (hi : i < n) : S.chk s.A s.M = 0 := by
  have := h.ok.n; have := h.nn
  rw [h.S]
  unfold Sw.chk
  rw [if_neg (by dsimp only; omega), if_neg (by have := h.ph; dsimp only; omega)]
theorem Kp.move {s0 s : Sys} {n i : Nat} {S : Sw} {fr : List Rf} (h : Kp s0 n i s S fr) (x : Mv) {ms : Nat} (h0 : 0 < ms) (hms : ms ≤ s.A.many) : Kp s0 n i (x.doR s ms) S fr := by
  have t := x.tame h.ok h.ph ms
  have nx := Mv.next x h.ok ms
  refine ⟨nx.ok, x.safe h.ok h.safe h0 hms, by rw [nx.K]; exact h.ph, nx.n.trans h.nn, h.S, h.fr, fun j hj hw => ?_, fun j hj hw => ?_, fun j hj hw => ?_⟩
  · obtain ⟨⟨h1, h2⟩, h3⟩ := h.yet j hj hw
    obtain ⟨t1, t2⟩ := t.tb j
    refine ⟨⟨?_, ?_⟩, t1.trans h3⟩
    · rcases t2 with t2 | t2
      · rw [t2]; exact h1
      · exact t2.2.1
    · rcases t.c j with t3 | t3
      · rw [t3]; exact h2
      · have := t3.1.symm.trans h1; cases this
  · obtain ⟨h1, h2⟩ := hw
    obtain ⟨t1, t2⟩ := t.tb j
    refine h.all j hj ⟨?_, ?_⟩
    · rcases t2 with t2 | t2
      · rw [← t2]; exact h1
      · exact absurd h2 t2.2.2
    · rcases t.c j with t3 | t3
      · rw [← t3]; exact h2
      · have := t3.2.symm.trans h2; cases this
  · obtain ⟨t1, t2⟩ := t.tb j
    rcases h.gone j hj hw with h1 | h1
    · left; rw [t1]; exact h1
    · right
      rcases t2 with t2 | t2
      · rw [t2]; exact h1
      · have := t2.1.symm.trans h1; cases this

theorem tk_give {T : Tb} {i : Nat} (hi : T.st i = 1) : (T.give i).tk = T.tk.filter (fun r => !decide (r = ⟨i, T.gn i⟩)) := by
  have hn : (T.give i).n = T.n := Tb.give_n T i
  have hst : ∀ j, (T.give i).st j = if j = i then (if T.gn i < 4294967295 then 0 else 2) else T.st j := fun j => by
    unfold Tb.give
    split
    · rfl
    · rfl
  have hgn : ∀ j, j ≠ i → (T.give i).gn j = T.gn j := fun j hj => by
    unfold Tb.give
    split
    · exact if_neg hj
    · exact if_neg hj
  unfold Tb.tk
  rw [hn]
  induction T.n with
  | zero => rfl
  | succ k ih =>
    by_cases e : k = i
    · subst e
      rw [Tb.inn_no (T := T.give k) (by rw [hst, if_pos rfl]; split <;> decide), Tb.inn_yes hi, ih, List.map_append, List.filter_append]
      simp [rfOf]
    · by_cases h1 : T.st k = 1
      · rw [Tb.inn_yes (T := T.give i) (by rw [hst, if_neg e]; exact h1), Tb.inn_yes h1, List.map_append, List.map_append, List.filter_append, ih, hgn k e]
        congr 1
        have : ¬ ((k : Int) = i) := by omega
        simp [rfOf, this]
      · rw [Tb.inn_no (T := T.give i) (by rw [hst, if_neg e]; exact h1), Tb.inn_no h1, ih]

/-- a step -/
theorem Kp.step {s0 s : Sys} {n i : Nat} {S : Sw} {fr : List Rf} (h : Kp s0 n i s S fr) (hi : i < n) :
    Kp s0 n (i + 1) (S.stepR s).s (S.stepR s).S (if (S.stepR s).is = true then fr ++ [(S.stepR s).r] else fr) ∧ ((S.stepR s).is = true → (S.stepR s).r.nz = true) ∧ ((S.stepR s).is = false → (S.stepR s).r = .no)
      ∧ (S.stepR s).s.A.H.T.tk = (if (S.stepR s).is = true then s.A.H.T.tk.filter (fun r => !decide (r = (S.stepR s).r)) else s.A.H.T.tk) ∧ (S.stepR s).S.n = fr.length + (if (S.stepR s).is = true then 1 else 0) ∧ (S.stepR s).s.A.many = s.A.many ∧ (S.stepR s).s.M.K = s.M.K ∧ ((S.stepR s).is = true → (S.stepR s).r ∈ s.A.H.T.tk) := by
  have hnn := h.nn
  have hin : i < s.A.H.T.n := by rw [h.ok.n]; omega
  have hS := h.S
  by_cases hw : s.wh i
  · obtain ⟨w1, w2⟩ := id hw
    have e : S.stepR s = ⟨⟨n, i + 1, fr.length + 1⟩, s.free i, ⟨i, s.A.H.T.gn i⟩, true⟩ := by
      rw [hS]; unfold Sw.stepR; rw [if_neg (by rintro (h | h); exact h w2; exact h w1)]
    rw [e]
    have hck : ckV s.A.H.T (i : Int) (s.A.H.T.gn i) = 0 := ckV_tk hin w1
    have hfr : (s.free i).A.H = s.A.H.free i := by
      show (s.A.H.freeR ⟨i, s.A.H.T.gn i⟩).1 = _
      unfold Hp.freeR
      rw [if_neg (by show ¬ ckV s.A.H.T (i : Int) (s.A.H.T.gn i) ≠ 0; rw [hck]; exact fun h => h rfl)]
      show s.A.H.free (i : Int).toNat = _
      rw [Int.toNat_natCast]
    have hst : ∀ j, (s.free i).A.H.T.st j = if j = i then (if s.A.H.T.gn i < 4294967295 then 0 else 2) else s.A.H.T.st j := fun j => by
      rw [hfr]; show (s.A.H.T.give i).st j = _
      unfold Tb.give
      split <;> rfl
    have hgn : ∀ j, (s.free i).A.H.T.gn j = if j = i then (if s.A.H.T.gn i < 4294967295 then s.A.H.T.gn i + 1 else s.A.H.T.gn i) else s.A.H.T.gn j := fun j => by
      rw [hfr]; show (s.A.H.T.give i).gn j = _
      unfold Tb.give
      split <;> rfl
    have hM := Sys.free_M (s := s) (i := i) (by omega)
    have hMe : (s.free i).M = s.M := by
      rw [hM]
      have : s.M.P.put i 0 = s.M.P := by
        unfold Pt.put
        have : updf s.M.P.c i 0 = s.M.P.c := by
          funext j
          by_cases ej : j = i
          · subst ej; rw [updf_same, w2]
          · rw [updf_ne _ _ ej]
        rw [this]
      rw [this]
    have w0 := h.all i (Nat.le_refl _) hw
    obtain ⟨_, w0g⟩ := h.yet i (Nat.le_refl _) w0
    have hsf : Safe (s.free i) := by
      have := (safe_free (A' := (s.free i).A) h.safe (by have := h.ph; omega) w2 (Ar.freeR_n _ _).2 rfl rfl (fun j hj => by rw [hfr]; exact updf_ne _ _ hj) (by rw [hfr]; exact Tb.give_n _ _) (fun j hj => by rw [hst, if_neg hj]) (fun j hj => by rw [hgn, if_neg hj]) (by rw [hst, if_pos rfl]; split <;> decide)).1
      have e2 : s.free i = ⟨(s.free i).A, s.M⟩ := by
        conv => lhs; rw [show s.free i = ⟨(s.free i).A, (s.free i).M⟩ from rfl, hMe]
      rw [e2]; exact this
    refine ⟨⟨h.ok.free (by omega) w2, hsf, by rw [hMe]; exact h.ph, by rw [hMe]; exact hnn, by simp, ?_, fun j hj hw0 => ?_, fun j hj hwj => ?_, fun j hj hw0 => ?_⟩, fun _ => ?_, fun hx => by simp at hx, ?_, by simp, (Ar.freeR_n _ _).2, by rw [hMe], fun _ => tk_mem hin w1⟩
    · rw [if_pos rfl, Sys.un_yes w0, ← h.fr, w0g]
    · obtain ⟨⟨y1, y2⟩, y3⟩ := h.yet j (by omega) hw0
      refine ⟨⟨?_, by rw [hMe]; exact y2⟩, ?_⟩
      · rw [hst, if_neg (by omega)]; exact y1
      · rw [hgn, if_neg (by omega)]; exact y3
    · obtain ⟨y1, y2⟩ := hwj
      rw [hst, if_neg (by omega)] at y1
      rw [hMe] at y2
      exact h.all j (by omega) ⟨y1, y2⟩
    · by_cases ej : j = i
      · subst ej
        rw [hgn, hst, if_pos rfl, if_pos rfl]
        split
        · left; omega
        · exact .inr rfl
      · rw [hgn, hst, if_neg ej, if_neg ej]
        exact h.gone j (by omega) hw0
    · simp only [Rf.nz, Bool.not_eq_true', Bool.and_eq_false_iff, beq_eq_false_iff_ne]
      right
      have := (h.ok.a.tb i hin).1
      omega
    · rw [if_pos rfl, hfr]
      exact tk_give w1
  · have e : S.stepR s = ⟨⟨n, i + 1, fr.length⟩, s, .no, false⟩ := by
      rw [hS]; unfold Sw.stepR
      rw [if_pos (by
        by_cases h1 : s.A.H.T.st i = 1
        · exact .inl (fun h2 => hw ⟨h1, h2⟩)
        · exact .inr h1)]
    rw [e]
    have w0 : ¬ s0.wh i := fun h0 => hw (h.yet i (Nat.le_refl _) h0).1
    refine ⟨⟨h.ok, h.safe, h.ph, hnn, rfl, ?_, fun j hj => h.yet j (by omega), fun j hj => h.all j (by omega), fun j hj hw0 => ?_⟩, fun hx => by simp at hx, fun _ => rfl, rfl, rfl, rfl, rfl, fun hx => by simp at hx⟩
    · rw [if_neg (fun h => by cases h), Sys.un_no w0]; exact h.fr
    · have : j ≠ i := fun e => w0 (e ▸ hw0)
      exact h.gone j (by omega) hw0

/-- at the end: nothing that was not marked is left -/
theorem Kp.done {s0 s : Sys} {n : Nat} {S : Sw} {fr : List Rf} (h : Kp s0 n n s S fr) {r : Rf} (hr : r ∈ s.A.H.T.tk) : r ∉ s0.un n := by
  intro hu
  obtain ⟨j, h1, h2, rfl⟩ := Sys.un_mem hu
  obtain ⟨i, e1, e2, e3, e4⟩ := tk_of hr
  dsimp only at e1 e4
  have : j = i := by omega
  subst this
  rcases h.gone j h1 h2 with h3 | h3
  · exact h3 e4
  · rw [e3] at h3; cases h3

end Go.Proofs.YtlgibhfeldlbiaaGreat
