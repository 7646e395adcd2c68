/- estraylaw26: ends. -/
import Derived.Test.YtnjgkhgdgpahfaaGreatCyH
import Derived.Test.YtnjgkhgdgpahfaaGreatPrA
import Derived.Test.YtnjgkhgdgpahfaaGreatCyK
import Derived.Test.YtnjgkhgdgpahfaaGreatCyE
import Derived.Test.YtnjgkhgdgpahfaaGreatKqA
namespace Go.Proofs.YtnjgkhgdgpahfaaGreat
open Go.RowKit
set_option linter.unusedVariables false
set_option linter.unusedSimpArgs false
set_option linter.unusedSectionVars false

variable {w0 w w' : World} {p a m b c : Nat} {LA : ArL} {LM : MkL} {k : Col} {f : List Rf}

theorem foot3_like' {d : Col} (h : k.Like d) : foot3 LA LM b c d.s = foot3 LA LM b c k.s := foot3_of h.2.2 h.1
theorem more_len (R : CyRes) (f : List Rf) : (R.more f).length ≤ f.length + 1 := by
  unfold CyRes.more
  split
  · simp
  · omega
theorem cy_le' {k : Col} (h : k.Ok) : k.s.M.K.cy ≤ k.C.begun := by have := h.bg; omega
theorem pair_ack (h : Pair w0 w p a m b c LA LM k f) (hok : k.Ok) (i : Nat) : Calls Tryz.prog 10 #[.pointer (some ⟨c, 0, none⟩), .pointer (some ⟨a, 0, none⟩), .int .i64 i] w
    fun e w' => (∃ u v, e = .returned (.tuple #[.bool u, .int .i64 v])) ∧ Pair w0 w' p a m b c LA LM ⟨⟨k.s.A, (k.s.M.ackR k.s.A i).M⟩, k.C⟩ f ∧ PKeep w w' p (foot3 LA LM b c k.s) := by
  refine (cyack h.q hok i).mono ?_
  rintro e w' ⟨rfl, hq, hk⟩
  exact ⟨⟨_, _, rfl⟩, h.fin hk hq⟩
theorem pair_cells (h : Pair w0 w p a m b c LA LM k f) : w.cell? ⟨p, 0, none⟩ = some (.pointer (some ⟨a, 0, none⟩)) ∧ w.cell? ⟨p, 1, none⟩ = some (.pointer (some ⟨c, 0, none⟩)) ∧ p < w.heap.size := by
  obtain ⟨v, h1, _⟩ := h.ex
  obtain ⟨x0, x1, _, _, xl⟩ := cells4 h1
  exact ⟨x0, x1, xl⟩
structure EndAt (w0 w wr : World) (p a m b c : Nat) (LA : ArL) (LM : MkL) (I : Col → List Rf → Prop) (k : Col) (f : List Rf) (i : Nat) (d : Col) (g : List Rf) : Prop where
  ok : d.Ok
  like : k.Like d
  bg : d.C.begun ≤ k.C.begun + 2 * i
  ln : g.length ≤ f.length + 2 * i
  inv : I d g
  pr : Pair w0 wr p a m b c LA LM d g
  kp : PKeep w wr p (foot3 LA LM b c k.s)
theorem EndAt.step {I : Col → List Rf → Prop} {wr : World} {i : Nat} {d : Col} {g : List Rf} (h : EndAt w0 w wr p a m b c LA LM I k f i d g) (hI : ∀ k f, k.Ok → I k f → I (k.stepR true).c ((k.stepR true).more f)) (hb : k.C.begun + 10000 < 4611686018427387904) (hl : f.length + 10000 ≤ 100000) (hi : i ≤ 4000) :
    Calls Tryz.prog 44 #[.pointer (some ⟨p, 0, none⟩), .int .i64 1] wr fun e w' => e = .returned (.tuple #[]) ∧ EndAt w0 w w' p a m b c LA LM I k f (i + 1) (d.stepR true).c ((d.stepR true).more g) := by
  have h1 := pstep h.pr h.ok 1 (by omega) (by have := cy_le' h.ok; have := h.bg; omega) (by have := h.ln; omega)
  refine h1.mono ?_
  rintro e w' ⟨rfl, hp, hk⟩
  obtain ⟨g1, g2⟩ := Col.step_ok h.ok true
  rw [foot3_like' h.like] at hk
  exact ⟨rfl, g1, h.like.trans g2, by have := Col.step_begun h.ok true; have := h.bg; omega, by have := more_len (d.stepR true) g; have := h.ln; omega, hI _ _ h.ok h.inv, hp, h.kp.trans hk⟩
theorem EndAt.ack {I : Col → List Rf → Prop} {wr : World} {i : Nat} {d : Col} {g : List Rf} (h : EndAt w0 w wr p a m b c LA LM I k f i d g) (j : Nat) (hI : ∀ k f, k.Ok → I k f → I ⟨⟨k.s.A, (k.s.M.ackR k.s.A j).M⟩, k.C⟩ f) :
    Calls Tryz.prog 10 #[.pointer (some ⟨c, 0, none⟩), .pointer (some ⟨a, 0, none⟩), .int .i64 j] wr fun e w' => (∃ u v, e = .returned (.tuple #[.bool u, .int .i64 v])) ∧ EndAt w0 w w' p a m b c LA LM I k f i ⟨⟨d.s.A, (d.s.M.ackR d.s.A j).M⟩, d.C⟩ g := by
  refine (pair_ack h.pr h.ok j).mono ?_
  rintro e w' ⟨he, hp, hk⟩
  obtain ⟨g1, g2⟩ := Col.ack_ok h.ok j
  rw [foot3_like' h.like] at hk
  exact ⟨he, g1, h.like.trans g2, h.bg, h.ln, hI _ _ h.ok h.inv, hp, h.kp.trans hk⟩
theorem EndAt.same {I : Col → List Rf → Prop} {wr w' : World} {i : Nat} {d : Col} {g : List Rf} (h : EndAt w0 w wr p a m b c LA LM I k f i d g) (hk : Keeps (fun _ => False) wr w') : EndAt w0 w w' p a m b c LA LM I k f i d g := by
  obtain ⟨v, h1, _⟩ := h.pr.ex
  refine ⟨h.ok, h.like, h.bg, h.ln, h.inv, h.pr.same hk, h.kp.trans (h.pr.keep0 (ft := foot3 LA LM b c k.s) (hk.mono (fun _ _ h => h.elim)) ?_)⟩
  rw [← foot3_like' h.like]
  exact h.pr.q.pairfoot h1
end Go.Proofs.YtnjgkhgdgpahfaaGreat

/- estraylaw26: many turns; the rounds of a cycle that was asked for again; a mutator that does not answer. -/
namespace Go.Proofs.YtnjgkhgdgpahfaaGreat
open Go.RowKit
set_option linter.unusedVariables false
set_option linter.unusedSimpArgs false
set_option linter.unusedSectionVars false

def Col.tn (k : Col) (l : List Mv) (i : Nat) : Col × List Rf := (l.take i).foldl (fun s x => x.turn26 s.1 s.2) (k, [])
theorem Col.tn_succ (k : Col) (l : List Mv) {i : Nat} {x : Mv} (h : l[i]? = some x) : k.tn l (i + 1) = x.turn26 (k.tn l i).1 (k.tn l i).2 := by
  unfold Col.tn
  rw [List.take_add_one, h, List.foldl_append]
  rfl
theorem Col.tn_ok {k : Col} (hok : k.Ok) (l : List Mv) : ∀ i, i ≤ l.length → (k.tn l i).1.Ok ∧ k.Like (k.tn l i).1 ∧ (k.tn l i).1.C.begun ≤ k.C.begun + 8 * i ∧ (k.tn l i).2.length ≤ 8 * i := by
  intro i
  induction i with
  | zero => intro _; exact ⟨hok, Col.Like.refl k, Nat.le_refl _, Nat.le_refl _⟩
  | succ i ih =>
    intro hi
    obtain ⟨h1, h2, h3, h4⟩ := ih (by omega)
    obtain ⟨x, hx⟩ : ∃ x, l[i]? = some x := ⟨_, List.getElem?_eq_getElem (by omega)⟩
    obtain ⟨g1, g2, g3, g4⟩ := turn26_ok x h1 (k.tn l i).2
    rw [Col.tn_succ k l hx]
    exact ⟨g1, h2.trans g2, by omega, by omega⟩
structure Runs (E n : Nat) (b : Bool) (D : Col) (t : Nat) : Prop where
  ok : D.Ok
  nn : D.s.M.P.n = n
  asked : D.C.asked = b
  bg : D.C.begun = E + 1
  on : D.s.M.K.ph ≠ 0 → D.s.M.K.cy = E ∧ D.mu + t ≤ 3 * n + 3
  off : D.s.M.K.ph = 0 → D.s.M.K.cy = E + 1 ∧ t ≤ 3 * n + 4
theorem Runs.next {E n t : Nat} {b : Bool} {D : Col} (h : Runs E n b D t) (hp : D.s.M.K.ph ≠ 0) : Runs E n b D.round.c (t + 1) := by
  obtain ⟨r1, r2⟩ := Col.round_ok h.ok
  obtain ⟨m1, m2, m3, m4, m5⟩ := Col.round_mu h.ok hp
  obtain ⟨o1, o2⟩ := h.on hp
  refine ⟨r1, r2.2.1.trans h.nn, m2.trans h.asked, m3.trans h.bg, fun hq => ⟨(m5 hq).trans o1, by omega⟩, fun hq => ⟨by rw [m4 hq, o1], by omega⟩⟩
structure Still (s : Nat) (D : Col) : Prop where
  ok : D.Ok
  ph : D.s.M.K.ph = 1
  lt : s < D.s.M.K.many
  seen : D.s.M.K.seen s = false
theorem Still.ack {s i : Nat} {D : Col} (h : Still s D) (hi : i ≠ s) : Still s ⟨⟨D.s.A, (D.s.M.ackR D.s.A i).M⟩, D.C⟩ := by
  obtain ⟨h1, h2⟩ := Col.ack_ok h.ok i
  obtain ⟨_, a2, _, a4, _, _⟩ := Sys.ack_next h.ok.s i
  refine ⟨h1, a2.trans h.ph, by dsimp only; rw [a4]; exact h.lt, ?_⟩
  dsimp only
  have key : (D.s.M.K.ack (i : Int).toNat).seen s = false := by
    rw [show (D.s.M.K.ack (i : Int).toNat).seen s = D.s.M.K.seen s from updf_ne _ _ (by simp; omega)]; exact h.seen
  unfold Mk.ackR
  split
  · exact h.seen
  split
  · exact h.seen
  split
  · exact key
  · exact key
theorem Still.step {s : Nat} {D : Col} (h : Still s D) (room : Bool) : Still s (D.stepR room).c := by
  have hs4 := h.ok.s.m.k4
  have hnr : D.s.M.K.ready = false := by
    have ha : D.s.M.K.all = false := by
      have h0 := h.lt; have h1 := h.seen
      unfold Ck.all
      obtain rfl | rfl | rfl | rfl : s = 0 ∨ s = 1 ∨ s = 2 ∨ s = 3 := by omega
      · rw [h1]; simp [h0]
      · rw [h1]; simp [h0]
      · rw [h1]; simp [h0]
      · rw [h1]; simp [h0]
    unfold Ck.ready
    rw [ha, Bool.and_false]
  have e : D.s.step.M = D.s.M := by
    show D.s.M.stepR D.s.A = D.s.M
    unfold Mk.stepR
    rw [if_pos h.ph, if_neg (by rw [hnr]; decide)]
  have e2 : (D.stepR room).c = D.mark := by
    unfold Col.stepR
    rw [if_neg (by rw [h.ph]; decide), if_neg (by rw [h.ph]; decide), if_neg (by rw [h.ph]; decide)]
  obtain ⟨o1, _⟩ := Col.step_ok h.ok room
  rw [e2] at o1 ⊢
  have e3 : D.mark.s.M = D.s.M := e
  exact ⟨o1, by rw [e3]; exact h.ph, by rw [e3]; exact h.lt, by rw [e3]; exact h.seen⟩
end Go.Proofs.YtnjgkhgdgpahfaaGreat

/- estraylaw26: a pair, call by call; estrayref14.Same. -/
namespace Go.Proofs.YtnjgkhgdgpahfaaGreat
open Go.RowKit
set_option linter.unusedVariables false
set_option linter.unusedSimpArgs false
set_option linter.unusedSectionVars false

section
variable {w0 w w' : World} {p a m b c : Nat} {LA : ArL} {LM : MkL} {k : Col} {f : List Rf}
theorem pplay {l : List Mv} {i : Nat} {x : Mv} (h : Pair w0 w p a m b c LA LM (k.tn l i).1 (k.tn l i).2) (hok : k.Ok) (hx : l[i]? = some x) (hxb : x.Byte) (hb : k.C.begun + 8 * i + 100 < 4611686018427387904) (hl : 8 * i + 100 ≤ 100000) :
    Calls Tryz.prog 43 #[.pointer (some ⟨p, 0, none⟩), x.val] w fun e w' => e = .returned (.tuple #[]) ∧ Pair w0 w' p a m b c LA LM (k.tn l (i + 1)).1 (k.tn l (i + 1)).2 ∧ PKeep w w' p (foot3 LA LM b c k.s) := by
  have hi : i < l.length := by
    rcases Nat.lt_or_ge i l.length with h | h
    · exact h
    · rw [List.getElem?_eq_none h] at hx; cases hx
  obtain ⟨o1, o2, o3, o4⟩ := Col.tn_ok hok l i (by omega)
  have hp := pturn x h o1 hxb (by omega) (by omega)
  rw [Col.tn_succ k l hx, ← foot3_of (LA := LA) (LM := LM) (b := b) (c := c) o2.2.2 o2.1]
  exact hp
theorem pair_ask (h : Pair w0 w p a m b c LA LM k f) (hb : k.C.begun < 4611686018427387904) : Calls Tryz.prog 12 #[.pointer (some ⟨c, 0, none⟩)] w
    fun e w' => e = .returned (.bool k.askR.2) ∧ Pair w0 w' p a m b c LA LM k.askR.1 f := by
  refine (cyask h.q hb).mono ?_
  rintro e w' ⟨rfl, hq, hk⟩
  exact ⟨rfl, (h.fin hk hq).1⟩
theorem pair_acked (h : Pair w0 w p a m b c LA LM k f) (hok : k.Ok) (i : Int) : Calls Tryz.prog 10 #[.pointer (some ⟨c, 0, none⟩), .pointer (some ⟨a, 0, none⟩), .int .i64 i] w
    fun e w' => e = .returned (.tuple #[.bool (k.s.M.ackR k.s.A i).is, .int .i64 (k.s.M.ackR k.s.A i).e]) ∧ Pair w0 w' p a m b c LA LM ⟨⟨k.s.A, (k.s.M.ackR k.s.A i).M⟩, k.C⟩ f := by
  refine (cyack h.q hok i).mono ?_
  rintro e w' ⟨rfl, hq, hk⟩
  exact ⟨rfl, (h.fin hk hq).1⟩
theorem pair_step1 (h : Pair w0 w p a m b c LA LM k f) (hok : k.Ok) (hb : k.C.begun < 4611686018427387904) (hl : f.length ≤ 100000) : Calls Tryz.prog 44 #[.pointer (some ⟨p, 0, none⟩), .int .i64 1] w
    fun e w' => e = .returned (.tuple #[]) ∧ Pair w0 w' p a m b c LA LM (k.stepR true).c ((k.stepR true).more f) := by
  refine (pstep h hok 1 (by omega) (by have := cy_le' hok; omega) hl).mono ?_
  rintro e w' ⟨rfl, hp, _⟩
  exact ⟨rfl, hp⟩
theorem pair_step0 (h : Pair w0 w p a m b c LA LM k f) (hok : k.Ok) (hb : k.C.begun < 4611686018427387904) (hl : f.length ≤ 100000) : Calls Tryz.prog 44 #[.pointer (some ⟨p, 0, none⟩), .int .i64 0] w
    fun e w' => e = .returned (.tuple #[]) ∧ Pair w0 w' p a m b c LA LM (k.stepR false).c ((k.stepR false).more f) := by
  refine (pstep h hok 0 (by omega) (by have := cy_le' hok; omega) hl).mono ?_
  rintro e w' ⟨rfl, hp, _⟩
  exact ⟨rfl, hp⟩
theorem steps_succ (room : Bool) (k : Col) (f : List Rf) (i : Nat) : Col.steps room k f (i + 1) = (((Col.steps room k f i).1.stepR room).c, ((Col.steps room k f i).1.stepR room).more (Col.steps room k f i).2) := rfl
theorem pair_steps (i : Nat) (h : Pair w0 w p a m b c LA LM (Col.steps true k f i).1 (Col.steps true k f i).2) (hok : k.Ok) (hb : k.C.begun + i < 4611686018427387904) (hl : f.length + i ≤ 100000) : Calls Tryz.prog 44 #[.pointer (some ⟨p, 0, none⟩), .int .i64 1] w
    fun e w' => e = .returned (.tuple #[]) ∧ Pair w0 w' p a m b c LA LM (Col.steps true k f (i + 1)).1 (Col.steps true k f (i + 1)).2 := by
  obtain ⟨h1, h2, h3, h4⟩ := Col.steps_ok hok true f i
  rw [steps_succ]
  exact pair_step1 h h1 (by omega) (by omega)
theorem Pair.found (h : Pair w0 w p a m b c LA LM k f) : ∃ x n, w.cell? ⟨p, 2, none⟩ = some (.slice x f.length n) ∧ Refs w (.slice x f.length n) f ∧ w.cell? ⟨p, 3, none⟩ = some (.bool false) := by
  obtain ⟨v, h1, h2⟩ := h.ex
  obtain ⟨x, n, e⟩ := h2.refs.slice
  subst e
  exact ⟨x, n, cell_at h1 rfl, h2.refs, cell_at h1 rfl⟩
end

set_option maxRecDepth 100000 in
theorem same14 (v1 v2 : Value) (l1 l2 : List Rf) (w : World) (h1 : Refs w v1 l1) (h2 : Refs w v2 l2) (hb : l1.length ≤ 100000) :
    Calls Tryz.prog 45 #[v1, v2] w fun e w' => e = .returned (.bool (decide (l1 = l2))) ∧ Keeps (fun _ => False) w w' := by
  obtain ⟨a1, c1, rfl⟩ := h1.slice
  obtain ⟨a2, c2, rfl⟩ := h2.slice
  have H1 := hid (fun W (hk : Keeps (fun _ => False) w W) => (h1.keeps hk (fun _ _ h => h)).cell.2)
  have H2 := hid (fun W (hk : Keeps (fun _ => False) w W) => (h2.keeps hk (fun _ _ h => h)).cell.2)
  clear h1 h2
  by_cases hl : l1.length = l2.length
  · obtain ⟨n, hn⟩ : ∃ n, l1.length = n := ⟨_, rfl⟩
    have hn2 : l2.length = n := hl.symm.trans hn
    rw [hn, hn2]
    rw [hn] at hb
    clear hl
    go_enter Tryz.func45, Tryz.ntmps45
    go_wp2_with fail
    go_loopw [5] (fun ix wr => ∃ k : Nat, k ≤ n ∧ ix = .int .i64 k ∧ l1.take k = l2.take k ∧ Keeps (fun _ => False) w wr) (fun ix _ => n - (intOf ix).toNat)
    case atStart => exact ⟨0, Nat.zero_le _, rfl, rfl, Keeps.refl _ _⟩
    case round =>
      obtain ⟨k, hk, rfl, he, hkr⟩ := hrel
      have HKR := hid hkr; have HE := hid he
      by_cases hlt : k < n
      · obtain ⟨x, hx⟩ : ∃ x, l1[k]? = some x := ⟨_, List.getElem?_eq_getElem (by omega)⟩
        obtain ⟨y, hy⟩ : ∃ y, l2[k]? = some y := ⟨_, List.getElem?_eq_getElem (by omega)⟩
        obtain ⟨g1, rfl, b1, p0, p1⟩ := H1.out wr hkr k x hx
        obtain ⟨g2, rfl, b2, q0, q1⟩ := H2.out wr hkr k y hy
        have hlt' : (k : Int) < (n : Int) := by omega
        have hk0 : (0 : Int) ≤ k := by omega
        have HX := hid hx; have HY := hid hy
        have hneq := fun w => neq_ref w x.s x.g y.s y.g
        simp only [Rf.eq_iff] at hneq
        clear hkr he hx hy
        by_cases hxy : x = y
        · rw [decide_eq_true hxy] at hneq
          have HXY := hid hxy
          clear hxy
          go_wp2_with fail
          go_quiet (fail)
          go_wp2_with fail
          refine ⟨⟨k + 1, by omega, by go_num, ?_, (HKR.out.drewN _)⟩, by simp [intOf]; omega⟩
          rw [List.take_add_one, List.take_add_one, HE.out, HX.out, HY.out, HXY.out]
        · rw [decide_eq_false hxy] at hneq
          have hd : decide (l1 = l2) = false := decide_eq_false (fun h => hxy (by have h1 := HX.out; rw [h, HY.out] at h1; exact (Option.some.inj h1).symm))
          have HD := hid hd
          clear hxy hd
          go_wp2_with fail
          go_quiet (fail)
          go_wp2_with fail
          go_ret
          exact ⟨ret_bool HD.out.symm, HKR.out.drewN _⟩
      · have hlt' : ¬ (k : Int) < (n : Int) := by omega
        have hall : l1 = l2 := by
          rw [← List.take_of_length_le (l := l1) (i := k) (by omega), ← List.take_of_length_le (l := l2) (i := k) (by omega)]; exact he
        have HALL := hid hall
        clear hkr he hall
        go_wp2_with fail
        go_ret
        exact ⟨ret_bool (by simp [HALL.out]), HKR.out⟩
  · have hd : decide (l1 = l2) = false := decide_eq_false (fun h => hl (by rw [h]))
    have hl' : ((l1.length : Int) == l2.length) = false := by simpa using (by omega : ¬ (l1.length : Int) = l2.length)
    rw [hd]
    clear hl
    go_enter Tryz.func45, Tryz.ntmps45
    go_wp2_with fail
    go_ret
    exact ⟨rfl, Keeps.refl _ _⟩
end Go.Proofs.YtnjgkhgdgpahfaaGreat

/- estraylaw26: works, the model. -/
namespace Go.Proofs.YtnjgkhgdgpahfaaGreat
open Go.RowKit
set_option linter.unusedVariables false
set_option linter.unusedSimpArgs false
set_option linter.unusedSectionVars false

def wQ : List Mv := [⟨1, 0, 0, 0, 0⟩, ⟨0, 0, 1, 0, 0⟩, ⟨1, 0, 0, 0, 0⟩, ⟨3, 0, 1, 0, 2⟩, ⟨6, 0, 2, 0, 0⟩, ⟨6, 0, 0, 0, 0⟩]
def vK : Col := Col.new 3 1 1 1
def vA : Col := (vK.tn wQ 6).1
def vB : Col := vA.askR.1
def vC : Col := vB.askR.1
def vD : Col := ⟨⟨vC.s.A, (vC.s.M.ackR vC.s.A 0).M⟩, vC.C⟩
def vE : Col := (vD.stepR true).c
def vF : Col := ⟨⟨vE.s.A, (vE.s.M.ackR vE.s.A 0).M⟩, vE.C⟩
def vG : Col := (Col.steps true vF [] 4).1
def vH : Col := (vG.stepR false).c
def vI : Col := (Col.steps true vH [] 6).1
theorem vK_ok : vK.Ok := Col.new_ok (by decide) (by decide) (by decide) (by decide)
theorem vA_f : (vK.tn wQ 6).2 = [] := by kernel_rfl
theorem vA_ok : vA.Ok ∧ vA.C.begun ≤ 48 := by
  obtain ⟨h1, h2, h3, h4⟩ := Col.tn_ok vK_ok wQ 6 (by decide)
  exact ⟨h1, by have e : vK.C.begun = 0 := rfl; unfold vA; omega⟩
theorem vB_is : vA.askR.2 = true := by kernel_rfl
theorem vB_b : vB.C.begun = 1 := by kernel_rfl
theorem vC_is : vB.askR.2 = false := by kernel_rfl
theorem vC_ok : vC.Ok := (Col.ask_ok (Col.ask_ok vA_ok.1).1).1
theorem vD_r : (vC.s.M.ackR vC.s.A 0).is = true ∧ (vC.s.M.ackR vC.s.A 0).e = 0 := ⟨by kernel_rfl, by kernel_rfl⟩
theorem vD_ok : vD.Ok := (Col.ack_ok vC_ok 0).1
theorem vE_f : (vD.stepR true).more [] = [] := by kernel_rfl
theorem vE_ok : vE.Ok := (Col.step_ok vD_ok true).1
theorem vF_r : (vE.s.M.ackR vE.s.A 0).is = true ∧ (vE.s.M.ackR vE.s.A 0).e = 0 := ⟨by kernel_rfl, by kernel_rfl⟩
theorem vF_ok : vF.Ok := (Col.ack_ok vE_ok 0).1
theorem vF_b : vF.C.begun = 1 := by kernel_rfl
theorem vG_f : (Col.steps true vF [] 4).2 = [] := by kernel_rfl
theorem vG_ph : vG.s.M.K.ph = 4 := by kernel_rfl
theorem vG_ok : vG.Ok := (Col.steps_ok vF_ok true [] 4).1
theorem vH_f : (vG.stepR false).more [] = [] := by kernel_rfl
theorem vH_ok : vH.Ok := (Col.step_ok vG_ok false).1
theorem vH_b : vH.C.begun = 1 := by kernel_rfl
theorem vI_f : (Col.steps true vH [] 6).2 = [⟨0, 1⟩] := by kernel_rfl
theorem vI_ph : vI.s.M.K.ph = 0 := by kernel_rfl
theorem vI_b : vI.C.begun = 1 := by kernel_rfl
theorem vI_cy : vI.s.M.K.cy = 1 := by kernel_rfl
theorem vI_no : (ckV vI.s.A.H.T 0 1 == 0) = false := by kernel_rfl
end Go.Proofs.YtnjgkhgdgpahfaaGreat

/- estraylaw26: works. -/
namespace Go.Proofs.YtnjgkhgdgpahfaaGreat
open Go.RowKit
set_option linter.unusedVariables false
set_option linter.unusedSimpArgs false

section
variable {w0 w w' : World} {p a m b c : Nat} {LA : ArL} {LM : MkL}
theorem wbegin (W : World) : Calls Tryz.prog 42 #[.agg #[.int .i64 3, .int .i64 1, .int .i64 1, .int .i64 1, .int .i64 0, .int .i64 0, .int .i64 0, .int .i64 0, .int .i64 0, .int .u32 0]] W fun e w' => ∃ q, pbeg W w' q vK e := by
  unfold vK
  exact begin26 3 1 1 1 (fun _ => 0) W (by decide) (by decide) (by decide) (by decide) (by decide) (by decide) (by decide) (by decide)
theorem wturn (i : Nat) (x : Mv) (hx : wQ[i]? = some x) (hxb : x.Byte) (hi : i ≤ 10) (h : Pair w0 w p a m b c LA LM (vK.tn wQ i).1 (vK.tn wQ i).2) (v : Value) (hv : v = x.val) :
    Calls Tryz.prog 43 #[.pointer (some ⟨p, 0, none⟩), v] w fun e w' => e = .returned (.tuple #[]) ∧ Pair w0 w' p a m b c LA LM (vK.tn wQ (i + 1)).1 (vK.tn wQ (i + 1)).2 := by
  subst hv
  refine (pplay h vK_ok hx hxb (by have e : vK.C.begun = 0 := rfl; omega) (by omega)).mono ?_
  rintro e w' ⟨rfl, h1, _⟩
  exact ⟨rfl, h1⟩
end
set_option maxRecDepth 100000 in
set_option maxHeartbeats 4000000 in
theorem works26 (w : World) : Calls Tryz.prog 16 #[] w fun e w' => e = .returned (.bool true) ∧ Keeps (fun _ => False) w w' := by
  go_enter Tryz.func16, Tryz.ntmps16
  go_wp2_with fail
  refine (wbegin _).mono ?_
  rintro e wt ⟨p, rfl, w0, a, m, b, c, LA, LM, k0, hp⟩
  have HK0 := hid k0
  have HP := hid (show Pair w0 wt p a m b c LA LM (vK.tn wQ 0).1 (vK.tn wQ 0).2 from hp)
  clear k0 hp
  go_wp2_with fail
  refine (wturn 0 ⟨1, 0, 0, 0, 0⟩ rfl ⟨by decide, by decide, by decide, by decide, by decide⟩ (by decide) HP.out _ rfl).mono ?_
  clear HP
  rintro e wt ⟨rfl, hp⟩
  have HP := hid hp
  clear hp
  go_wp2_with fail
  refine (wturn 1 ⟨0, 0, 1, 0, 0⟩ rfl ⟨by decide, by decide, by decide, by decide, by decide⟩ (by decide) HP.out _ rfl).mono ?_
  clear HP
  rintro e wt ⟨rfl, hp⟩
  have HP := hid hp
  clear hp
  go_wp2_with fail
  refine (wturn 2 ⟨1, 0, 0, 0, 0⟩ rfl ⟨by decide, by decide, by decide, by decide, by decide⟩ (by decide) HP.out _ rfl).mono ?_
  clear HP
  rintro e wt ⟨rfl, hp⟩
  have HP := hid hp
  clear hp
  go_wp2_with fail
  refine (wturn 3 ⟨3, 0, 1, 0, 2⟩ rfl ⟨by decide, by decide, by decide, by decide, by decide⟩ (by decide) HP.out _ rfl).mono ?_
  clear HP
  rintro e wt ⟨rfl, hp⟩
  have HP := hid hp
  clear hp
  go_wp2_with fail
  refine (wturn 4 ⟨6, 0, 2, 0, 0⟩ rfl ⟨by decide, by decide, by decide, by decide, by decide⟩ (by decide) HP.out _ rfl).mono ?_
  clear HP
  rintro e wt ⟨rfl, hp⟩
  have HP := hid hp
  clear hp
  go_wp2_with fail
  refine (wturn 5 ⟨6, 0, 0, 0, 0⟩ rfl ⟨by decide, by decide, by decide, by decide, by decide⟩ (by decide) HP.out _ rfl).mono ?_
  clear HP
  rintro e w7 ⟨rfl, hp⟩
  have HP7 := hid (show Pair w0 w7 p a m b c LA LM vA [] from by rw [vA_f] at hp; exact hp)
  clear hp
  have HA := hid (fun W (hk : Keeps (fun _ => False) w7 W) => pair_ask (HP7.out.same hk) (by have := vA_ok.2; omega))
  have HB := hid (fun W (h : Pair w0 W p a m b c LA LM vB []) => pair_ask h (by rw [vB_b]; decide))
  rw [vB_is] at HA; rw [vC_is] at HB
  obtain ⟨x0, x1, xl⟩ := pair_cells HP7.out
  go_upto_region 10 with (fail)
  go_cut [3, 4] (fun s3 s4 wx => s3 = .bool true ∧ s4 = .bool false ∧ Pair w0 wx p a m b c LA LM vC [])
  case first =>
    go_region_held3 (fun W => W.cell? ⟨p, 1, none⟩ = some (.pointer (some ⟨c, 0, none⟩)))
      ((first | exact x1 | exact (pair_cells he3).2.1 | exact (pair_cells he4).2.1))
      (first
        | (go_at_call 12; refine (HA.out _ (Keeps.refl _ _).drew).mono ?_; rintro e w3 ⟨rfl, he3⟩)
        | (go_at_call 12; refine (HB.out _ he3).mono ?_; rintro e w4 ⟨rfl, he4⟩))
    all_goals
      go_wp2_with fail
      go_meet
      exact ⟨rfl, rfl, he4⟩
  case rest =>
  obtain ⟨rfl, rfl, hp⟩ := hcut
  have HP8 := hid hp
  clear hp HA HB HP7 x0 x1 xl
  have HAK := hid (fun W (hk : Keeps (fun _ => False) wc W) => pair_acked (HP8.out.same hk) vC_ok 0)
  rw [vD_r.1, vD_r.2] at HAK
  obtain ⟨x0, x1, xl⟩ := pair_cells HP8.out
  obtain ⟨w8, hw8⟩ : ∃ w8, wc = w8 := ⟨_, rfl⟩
  rw [hw8] at HAK HP8 x0 x1 xl ⊢
  clear hw8
  go_upto_region 11 with (fail)
  go_cut [5, 6] (fun s5 s6 wx => s5 = .bool true ∧ s6 = .int .i64 0 ∧ Pair w0 wx p a m b c LA LM vD [])
  case first =>
    go_region_held3 (fun W => W.cell? ⟨p, 1, none⟩ = some (.pointer (some ⟨c, 0, none⟩)) ∧ W.cell? ⟨p, 0, none⟩ = some (.pointer (some ⟨a, 0, none⟩)))
      ((first | exact ⟨x1, x0⟩ | exact ⟨(pair_cells he3).2.1, (pair_cells he3).1⟩))
      (first | (go_at_call 10; refine (HAK.out _ (Keeps.refl _ _).drew).mono ?_; rintro e w3 ⟨rfl, he3⟩))
    all_goals
      go_wp2_with fail
      go_meet
      exact ⟨rfl, rfl, he3⟩
  case rest =>
  obtain ⟨rfl, rfl, hp⟩ := hcut
  have HP9 := hid hp
  clear hp HAK HP8 x0 x1 xl
  go_wp2_with fail
  refine (pair_step1 HP9.out vD_ok (by decide) (by decide)).mono ?_
  rintro e w9 ⟨rfl, hp⟩
  have HP10 := hid (show Pair w0 w9 p a m b c LA LM vE [] from by rw [vE_f] at hp; exact hp)
  clear hp HP9
  have HAK := hid (fun W (hk : Keeps (fun _ => False) w9 W) => pair_acked (HP10.out.same hk) vE_ok 0)
  rw [vF_r.1, vF_r.2] at HAK
  obtain ⟨x0, x1, xl⟩ := pair_cells HP10.out
  go_upto_region 13 with (fail)
  go_cut [7, 8] (fun s7 s8 wx => s7 = .bool true ∧ s8 = .int .i64 0 ∧ Pair w0 wx p a m b c LA LM vF [])
  case first =>
    go_region_held3 (fun W => W.cell? ⟨p, 1, none⟩ = some (.pointer (some ⟨c, 0, none⟩)) ∧ W.cell? ⟨p, 0, none⟩ = some (.pointer (some ⟨a, 0, none⟩)))
      ((first | exact ⟨x1, x0⟩ | exact ⟨(pair_cells he3).2.1, (pair_cells he3).1⟩))
      (first | (go_at_call 10; refine (HAK.out _ (Keeps.refl _ _).drew).mono ?_; rintro e w3 ⟨rfl, he3⟩))
    all_goals
      go_wp2_with fail
      go_meet
      exact ⟨rfl, rfl, he3⟩
  case rest =>
  obtain ⟨rfl, rfl, hp⟩ := hcut
  have HP11 := hid (show Pair w0 wc p a m b c LA LM (Col.steps true vF [] 0).1 (Col.steps true vF [] 0).2 from hp)
  clear hp HAK HP10 x0 x1 xl
  go_wp2_with fail
  go_loopw [9] (fun ix wr => ∃ i : Nat, i ≤ 4 ∧ ix = .int .i64 i ∧ Hid (Pair w0 wr p a m b c LA LM (Col.steps true vF [] i).1 (Col.steps true vF [] i).2)) (fun ix _ => 4 - (intOf ix).toNat)
  case atStart => exact ⟨0, by omega, rfl, HP11⟩
  case round =>
    obtain ⟨i, hi, rfl, HP⟩ := hrel
    by_cases hlt : i < 4
    · have hlt' : (i : Int) < 4 := by omega
      have hi0 : (0 : Int) ≤ i := by omega
      have HS := hid (pair_steps (k := vF) (f := []) i HP.out vF_ok (by rw [vF_b]; omega) (by show 0 + i ≤ 100000; omega))
      go_wp2_with fail
      refine HS.out.mono ?_
      rintro e w12 ⟨rfl, hp⟩
      have HP12 := hid hp
      clear hp
      go_wp2_with fail
      exact ⟨⟨i + 1, by omega, by go_num, HP12⟩, by simp [intOf]; omega⟩
    · obtain rfl : i = 4 := by omega
      have hlt' : ¬ ((4 : Nat) : Int) < 4 := by omega
      obtain ⟨w12, hw12⟩ : ∃ w12, wr = w12 := ⟨_, rfl⟩
      have HP12 := hid (show Pair w0 wr p a m b c LA LM vG [] from by have hp := HP.out; rw [vG_f] at hp; exact hp)
      rw [hw12] at HP12 ⊢
      clear hw12 HP HP11 hlt hi
      have HPH := hid (show Calls Tryz.prog 14 #[.pointer (some ⟨c, 0, none⟩)] w12 (fun e w' => e = .returned (.int .i64 4) ∧ w' = w12) from by
        have h := cyphase HP12.out.q; rw [vG_ph] at h; exact h)
      obtain ⟨x0, x1, xl⟩ := pair_cells HP12.out
      go_wp2_with fail
      refine (HPH.out).mono ?_
      rintro e w' ⟨rfl, h'⟩
      obtain rfl := h'.symm
      go_wp2_with fail
      refine (pair_step0 HP12.out vG_ok (by decide) (by decide)).mono ?_
      rintro e w13 ⟨rfl, hp⟩
      have HP13 := hid (show Pair w0 w13 p a m b c LA LM vH [] from by rw [vH_f] at hp; exact hp)
      clear hp HP12 x0 x1 xl HPH
      obtain ⟨fx, fn, f2, _, _⟩ := HP13.out.found
      obtain ⟨x0, x1, xl⟩ := pair_cells HP13.out
      go_wp2_with fail
      clear f2 x0 x1 xl
      go_loopw [12] (fun ix wr => ∃ i : Nat, i ≤ 6 ∧ ix = .int .i64 i ∧ Hid (Pair w0 wr p a m b c LA LM (Col.steps true vH [] i).1 (Col.steps true vH [] i).2)) (fun ix _ => 6 - (intOf ix).toNat)
      case atStart => exact ⟨0, by omega, rfl, HP13⟩
      case round =>
        obtain ⟨i, hi, rfl, HP⟩ := hrel
        by_cases hlt : i < 6
        · have hlt' : (i : Int) < 6 := by omega
          have hi0 : (0 : Int) ≤ i := by omega
          have HS := hid (pair_steps (k := vH) (f := []) i HP.out vH_ok (by rw [vH_b]; omega) (by show 0 + i ≤ 100000; omega))
          go_wp2_with fail
          refine HS.out.mono ?_
          rintro e w14 ⟨rfl, hp⟩
          have HP14 := hid hp
          clear hp
          go_wp2_with fail
          exact ⟨⟨i + 1, by omega, by go_num, HP14⟩, by simp [intOf]; omega⟩
        · obtain rfl : i = 6 := by omega
          have hlt' : ¬ ((6 : Nat) : Int) < 6 := by omega
          obtain ⟨w15, hw15⟩ : ∃ w15, wr = w15 := ⟨_, rfl⟩
          have HP15 := hid (show Pair w0 wr p a m b c LA LM vI [⟨0, 1⟩] from by have hp := HP.out; rw [vI_f] at hp; exact hp)
          rw [hw15] at HP15 ⊢
          clear hw15 HP HP13 hlt hi
          obtain ⟨fx, fn, f2, hrf, f3⟩ := HP15.out.found
          obtain ⟨x0, x1, xl⟩ := pair_cells HP15.out
          have HRF := hid hrf
          clear hrf
          go_wp2_with fail
          have kS : Keeps (fun _ => False) w15 (w15.alloc (.cells #[.int .i64 0, .int .u32 1] 39)) := (Keeps.refl _ _).alloc _
          refine (same14 _ _ [⟨0, 1⟩] [⟨0, 1⟩] _ (HRF.out.keeps kS (fun _ _ h => h)) (refs_one (x := ⟨0, 1⟩) alloc_new) (by decide)).mono ?_
          rintro e w16 ⟨rfl, k16⟩
          have HP16 := hid (HP15.out.same (kS.trans k16))
          clear kS k16 HP15 x0 x1 xl f2 f3
          obtain ⟨fx', fn', f2, _, f3⟩ := HP16.out.found
          obtain ⟨x0, x1, xl⟩ := pair_cells HP16.out
          have HPH := hid (show Calls Tryz.prog 14 #[.pointer (some ⟨c, 0, none⟩)] w16 (fun e w' => e = .returned (.int .i64 0) ∧ w' = w16) from by
            have h := cyphase HP16.out.q; rw [vI_ph] at h; exact h)
          have HBG := hid (show Calls Tryz.prog 46 #[.pointer (some ⟨c, 0, none⟩)] w16 (fun e w' => e = .returned (.int .i64 1) ∧ w' = w16) from by
            have h := cybegun HP16.out.q; rw [vI_b] at h; exact h)
          have HED := hid (show Calls Tryz.prog 47 #[.pointer (some ⟨c, 0, none⟩)] w16 (fun e w' => e = .returned (.int .i64 1) ∧ w' = w16) from by
            have h := cyended HP16.out.q; rw [vI_cy] at h; exact h)
          have hdt : decide (([⟨0, 1⟩] : List Rf) = [⟨0, 1⟩]) = true := decide_eq_true rfl
          rw [hdt]
          go_wp2_with fail
          refine (HPH.out).mono ?_
          rintro e w' ⟨rfl, h'⟩
          obtain rfl := h'.symm
          go_wp2_with fail
          refine (HBG.out).mono ?_
          rintro e w' ⟨rfl, h'⟩
          obtain rfl := h'.symm
          go_wp2_with fail
          refine (HED.out).mono ?_
          rintro e w' ⟨rfl, h'⟩
          obtain rfl := h'.symm
          go_wp2_with fail
          refine (aheap_ok a LA vI.s.A w16 HP16.out.q.tr.both.ar).mono ?_
          rintro e w17 ⟨b', t', rfl, k17, _, _, hh⟩
          have HP17 := hid (HP16.out.same k17)
          have HHS := hid (hhas_any b' t' vI.s.A.H 0 1 w17 hh)
          rw [vI_no] at HHS
          clear hh k17 HP16 x0 x1 xl f2 f3
          go_wp2_with fail
          refine HHS.out.mono ?_
          rintro e w18 ⟨rfl, k18⟩
          have HP18 := hid (HP17.out.same k18)
          clear k18
          obtain ⟨fx'', fn'', f2, _, f3⟩ := HP18.out.found
          obtain ⟨x0, x1, xl⟩ := pair_cells HP18.out
          go_wp2_with fail
          go_ret
          exact ⟨rfl, HK0.out.trans HP18.out.kp⟩
end Go.Proofs.YtnjgkhgdgpahfaaGreat
