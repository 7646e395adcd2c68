/- A reading of closed calls that the kernel can run: a region's run in the order of its text. -/
import Derived.Test.YthlphddehdjfjaaGreatDoorEwS
namespace Go.Proofs.YthlphddehdjfjaaGreatDoor
open Go.RowKit
set_option linter.unusedVariables false
set_option linter.unusedSimpArgs false
set_option linter.unusedSectionVars false

theorem bf1_bit {t : Tr Nat} {j : Nat} : ∀ {es : List Edge}, (bf1 t es).testBit j = true → ∃ e ∈ es, Region.binds .any e = true ∧ (j = e.on ∨ (bfA t e.on).testBit j = true)
  | [], h => by
    replace h : Nat.testBit 0 j = true := h
    simp at h
  | e :: es, h => by
    replace h : Nat.testBit (Bool.rec (motive := fun _ => Nat) (bf1 t es) (Nat.lor (Nat.lor (bf1 t es) (2 ^ e.on)) (bfA t e.on)) (Region.binds .any e)) j = true := h
    cases hb : Region.binds .any e with
    | false => rw [hb] at h; obtain ⟨e', h1, h2⟩ := bf1_bit h; exact ⟨e', .tail _ h1, h2⟩
    | true =>
      rw [hb] at h
      replace h : Nat.testBit ((bf1 t es ||| 2 ^ e.on) ||| bfA t e.on) j = true := h
      rw [Nat.testBit_or, Nat.testBit_or, Nat.testBit_two_pow, Bool.or_eq_true, Bool.or_eq_true, decide_eq_true_eq] at h
      rcases h with (h | h) | h
      · obtain ⟨e', h1, h2⟩ := bf1_bit h; exact ⟨e', .tail _ h1, h2⟩
      · exact ⟨e, .head _, hb, .inl h.symm⟩
      · exact ⟨e, .head _, hb, .inr h⟩
theorem bfT_cons (o : Oper) (l : List Oper) (i : Nat) (t : Tr Nat) : bfT (o :: l) i t = bfT l (i + 1) (t.set i (bf1 t o.after.toList)) := by
  show (fN (bf1 t o.after.toList) fun m => (t.set i m).fc (bfT l (i + 1))) = _
  rw [fN_eq, Tr.fc_eq]
theorem bfT_low : ∀ (l : List Oper) (i : Nat) (t : Tr Nat) (k : Nat), k < i → (bfT l i t).get k = t.get k
  | [], i, t, k, h => rfl
  | o :: l, i, t, k, h => by rw [bfT_cons, bfT_low l (i + 1) _ k (by omega), Tr.get_set, if_neg (by omega)]
theorem bfT_ok : ∀ (l : List Oper) (i : Nat) (t : Tr Nat), (∀ k, i ≤ k → t.get k = none) → ∀ (k : Nat) (o : Oper), l[k]? = some o → ∀ j, (bfA (bfT l i t) (i + k)).testBit j = true →
    ∃ e ∈ o.after.toList, Region.binds .any e = true ∧ (j = e.on ∨ (bfA (bfT l i t) e.on).testBit j = true)
  | [], i, t, ht, k, o, hk, j, h => by simp at hk
  | o :: l, i, t, ht, 0, o', hk, j, h => by
    cases hk
    have e1 : bfA (bfT (o :: l) i t) (i + 0) = bf1 t o.after.toList := by
      unfold bfA
      rw [bfT_cons, bfT_low l (i + 1) _ (i + 0) (by omega), Tr.get_set, if_pos (Nat.add_zero i)]
    rw [e1] at h
    obtain ⟨e, h1, h2, h3⟩ := bf1_bit h
    refine ⟨e, h1, h2, h3.imp_right fun h => ?_⟩
    by_cases he : e.on < i
    · unfold bfA at h ⊢
      rw [bfT_low _ _ _ _ he]
      exact h
    · unfold bfA at h
      rw [ht _ (by omega)] at h
      simp at h
  | o :: l, i, t, ht, k + 1, o', hk, j, h => by
    rw [bfT_cons] at h ⊢
    rw [show i + (k + 1) = i + 1 + k by omega] at h
    exact bfT_ok l (i + 1) _ (fun k hk => by rw [Tr.get_set, if_neg (by omega)]; exact ht k (by omega)) k o' (by simpa using hk) j h

structure Tx (T : Tr Nat) (ops : Array Oper) : Prop where
  acy : ∀ (i : Nat) (o : Oper), ops[i]? = some o → ∀ e ∈ o.after.toList, Region.binds .any e = true → e.on < i
  bef : ∀ (i : Nat) (o : Oper), ops[i]? = some o → ∀ j, (bfA T i).testBit j = true → ∃ e ∈ o.after.toList, Region.binds .any e = true ∧ (j = e.on ∨ (bfA T e.on).testBit j = true)
  uni : ∀ (i j : Nat) (o q : Oper) (d : Tmp), ops[i]? = some o → ops[j]? = some q → q.dst = some d → o.dst = some d → i = j
  opn : ∀ (i j : Nat) (o q : Oper) (d : Tmp), ops[i]? = some o → ops[j]? = some q → q.dst = some d → Operand.tmp d ∈ o.op.operands.toList → (((bfA T i).testBit j = true ∧ j < i) ∨ ((bfA T j).testBit i = true ∧ i < j))
  gua : ∀ (i : Nat) (o : Oper) (j : Nat) (b : Bool), ops[i]? = some o → o.guard = some (j, b) → (bfA T i).testBit j = true ∧ j < i
theorem rec_and {x k : Bool} (h : Bool.rec (motive := fun _ => Bool) false k x = true) : x = true ∧ k = true := by
  cases x with
  | false => cases h
  | true => exact ⟨rfl, h⟩
theorem bfB_ok {T : Tr Nat} {i j : Nat} {k : Bool} (h : bfB T i j k = true) : ((bfA T i).testBit j = true ∧ j < i) ∧ k = true := by
  obtain ⟨h1, h⟩ := rec_and h
  obtain ⟨h2, h⟩ := rec_and h
  rw [tb_eq] at h1
  rw [Nat.blt_eq] at h2
  exact ⟨⟨h1, h2⟩, h⟩
theorem bfO_ok {T : Tr Nat} {i j : Nat} {k : Bool} (h : bfO T i j k = true) : (((bfA T i).testBit j = true ∧ j < i) ∨ ((bfA T j).testBit i = true ∧ i < j)) ∧ k = true := by
  unfold bfO at h
  cases e : tb (bfA T i) j with
  | true =>
    rw [e] at h
    obtain ⟨h2, h⟩ := rec_and h
    rw [tb_eq] at e
    rw [Nat.blt_eq] at h2
    exact ⟨.inl ⟨e, h2⟩, h⟩
  | false =>
    rw [e] at h
    obtain ⟨h1, h⟩ := rec_and h
    obtain ⟨h2, h⟩ := rec_and h
    rw [tb_eq] at h1
    rw [Nat.blt_eq] at h2
    exact ⟨.inr ⟨h1, h2⟩, h⟩
theorem dstT_ok : ∀ (l : List Oper) (i : Nat) (t : Tr Nat) {t' : Tr Nat}, dstT l i t = some t' → (∀ (k : Nat) (o : Oper) d, l[k]? = some o → o.dst = some d → t'.get d = some (i + k)) ∧ ∀ d j, t.get d = some j → t'.get d = some j
  | [], i, t, t', h => by cases h; exact ⟨fun k o d hk => by simp at hk, fun _ _ h => h⟩
  | o :: l, i, t, t', h => by
    replace h : Option.rec (motive := fun _ => Option (Tr Nat)) (dstT l (i + 1) t) (fun d => Option.rec (motive := fun _ => Option (Tr Nat)) ((t.set d i).fc (dstT l (i + 1))) (fun _ => none) (t.get d)) o.dst = some t' := h
    have sh : ∀ k, i + 1 + k = i + (k + 1) := fun k => by omega
    cases hd : o.dst with
    | none =>
      rw [hd] at h
      obtain ⟨a1, a2⟩ := dstT_ok l (i + 1) t h
      refine ⟨fun k o' d hk ho => ?_, a2⟩
      cases k with
      | zero => cases hk; rw [hd] at ho; cases ho
      | succ k => rw [← sh]; exact a1 k o' d (by simpa using hk) ho
    | some d0 =>
      rw [hd] at h
      replace h : Option.rec (motive := fun _ => Option (Tr Nat)) ((t.set d0 i).fc (dstT l (i + 1))) (fun _ => none) (t.get d0) = some t' := h
      cases hg : t.get d0 with
      | some _ => rw [hg] at h; cases h
      | none =>
        rw [hg] at h
        replace h : (t.set d0 i).fc (dstT l (i + 1)) = some t' := h
        rw [Tr.fc_eq] at h
        obtain ⟨a1, a2⟩ := dstT_ok l (i + 1) _ h
        refine ⟨fun k o' d hk ho => ?_, fun d j hj => a2 d j ?_⟩
        · cases k with
          | zero =>
            cases hk
            rw [hd] at ho; cases ho
            exact a2 d0 i (by rw [Tr.get_set, if_pos rfl])
          | succ k => rw [← sh]; exact a1 k o' d (by simpa using hk) ho
        · rw [Tr.get_set, if_neg (fun e => by subst e; rw [hg] at hj; cases hj)]
          exact hj
theorem opnB_ok {T D : Tr Nat} {i : Nat} : ∀ {l : List Operand}, opnB T D i l = true → ∀ t j, Operand.tmp t ∈ l → D.get t = some j → (((bfA T i).testBit j = true ∧ j < i) ∨ ((bfA T j).testBit i = true ∧ i < j))
  | [], _, t, j, hm, _ => by cases hm
  | x :: l, h, t, j, hm, hj => by
    have rest : opnB T D i l = true → Operand.tmp t ∈ l → (((bfA T i).testBit j = true ∧ j < i) ∨ ((bfA T j).testBit i = true ∧ i < j)) := fun h hm => opnB_ok h t j hm hj
    cases x with
    | tmp t' =>
      replace h : Option.rec (motive := fun _ => Bool) (opnB T D i l) (fun j => bfO T i j (opnB T D i l)) (D.get t') = true := h
      cases hg : D.get t' with
      | none =>
        rw [hg] at h
        cases hm with
        | head => rw [hg] at hj; cases hj
        | tail _ hm => exact rest h hm
      | some j' =>
        rw [hg] at h
        obtain ⟨h1, h2⟩ := bfO_ok h
        cases hm with
        | head => rw [hg] at hj; cases hj; exact h1
        | tail _ hm => exact rest h2 hm
    | const v => cases hm with | tail _ hm => exact rest h hm
    | global g => cases hm with | tail _ hm => exact rest h hm
    | func f => cases hm with | tail _ hm => exact rest h hm
theorem acyB_ok {i : Nat} : ∀ {l : List Edge}, acyB i l = true → ∀ e ∈ l, Region.binds .any e = true → e.on < i
  | [], _, e, he, _ => by cases he
  | x :: l, h, e, he, hb => by
    replace h : Bool.rec (motive := fun _ => Bool) (acyB i l) (Bool.rec (motive := fun _ => Bool) false (acyB i l) (Nat.blt x.on i)) (Region.binds .any x) = true := h
    cases hx : Region.binds .any x with
    | false =>
      rw [hx] at h
      cases he with
      | head => rw [hb] at hx; cases hx
      | tail _ he => exact acyB_ok h e he hb
    | true =>
      rw [hx] at h
      obtain ⟨h1, h2⟩ := rec_and h
      rw [Nat.blt_eq] at h1
      cases he with
      | head => exact h1
      | tail _ he => exact acyB_ok h2 e he hb
theorem txB_ok {T D : Tr Nat} : ∀ (l : List Oper) (i : Nat), txB T D l i = true → ∀ (k : Nat) (o : Oper), l[k]? = some o →
    (∀ t j, Operand.tmp t ∈ o.op.operands.toList → D.get t = some j → (((bfA T (i + k)).testBit j = true ∧ j < i + k) ∨ ((bfA T j).testBit (i + k) = true ∧ i + k < j))) ∧ (∀ e ∈ o.after.toList, Region.binds .any e = true → e.on < i + k) ∧ ∀ j b, o.guard = some (j, b) → (bfA T (i + k)).testBit j = true ∧ j < i + k
  | [], i, h, k, o, hk => by simp at hk
  | x :: l, i, h, k, o, hk => by
    replace h : Bool.rec (motive := fun _ => Bool) false (Bool.rec (motive := fun _ => Bool) false (Option.rec (motive := fun _ => Bool) (txB T D l (i + 1)) (fun g => bfB T i g.1 (txB T D l (i + 1))) x.guard) (acyB i x.after.toList)) (opnB T D i x.op.operands.toList) = true := h
    obtain ⟨h1, h⟩ := rec_and h
    obtain ⟨h2, h⟩ := rec_and h
    have hg : (∀ j b, x.guard = some (j, b) → (bfA T i).testBit j = true ∧ j < i) ∧ txB T D l (i + 1) = true := by
      cases hx : x.guard with
      | none => rw [hx] at h; exact ⟨fun j b e => (by cases e), h⟩
      | some g =>
        rw [hx] at h
        obtain ⟨b1, b2⟩ := bfB_ok h
        exact ⟨fun j b e => by cases e; exact b1, b2⟩
    cases k with
    | zero => cases hk; exact ⟨opnB_ok h1, acyB_ok h2, hg.1⟩
    | succ k =>
      have := txB_ok l (i + 1) hg.2 k o (by simpa using hk)
      rwa [show i + 1 + k = i + (k + 1) by omega] at this
theorem tx_of {T : Tr Nat} {ops : Array Oper} (hT : T = bfT ops.toList 0 .e) (h : txA T ops = true) : Tx T ops := by
  unfold txA at h
  cases hD : dstT ops.toList 0 .e with
  | none => rw [hD] at h; cases h
  | some D =>
    rw [hD] at h
    have h2 := fun (i : Nat) (o : Oper) (ho : ops[i]? = some o) => by
      have := txB_ok ops.toList 0 h i o (by simpa using ho)
      rw [Nat.zero_add] at this
      exact this
    have h3 := fun (i : Nat) (o : Oper) (d : Tmp) (ho : ops[i]? = some o) (hd : o.dst = some d) => by
      have := (dstT_ok ops.toList 0 .e hD).1 i o d (by simpa using ho) hd
      rw [Nat.zero_add] at this
      exact this
    refine ⟨fun i o ho => (h2 i o ho).2.1, fun i o ho j hj => ?_, fun i j o q d ho hq hd hd' => ?_, fun i j o q d ho hq hd hm => (h2 i o ho).1 d j hm (h3 j q d hq hd), fun i o j b ho hg => (h2 i o ho).2.2 j b hg⟩
    · subst hT
      exact bfT_ok ops.toList 0 .e (fun _ _ => rfl) i o (by simpa using ho) j (by simpa using hj)
    · have a1 := h3 i o d ho hd'
      have a2 := h3 j q d hq hd
      rw [a1] at a2
      exact Option.some.inj a2
theorem Tx.lt {T : Tr Nat} {ops : Array Oper} (t : Tx T ops) : ∀ (i : Nat), i < ops.size → ∀ j, (bfA T i).testBit j = true → j < i := by
  intro i
  induction i using Nat.strongRecOn with
  | _ i ih =>
    intro hi j hj
    have ho : ops[i]? = some ops[i] := by simp [hi]
    obtain ⟨e, h1, h2, h3⟩ := t.bef i _ ho j hj
    have he := t.acy i _ ho e h1 h2
    rcases h3 with h3 | h3
    · omega
    · have := ih e.on he (by omega) j h3
      omega

def Gw (ops : Array Oper) (tm : En) (o : Oper) (b : Bool) : Prop := (o.guard = none ∧ b = true) ∨ ∃ g, o.guard = some g ∧ gdA ops tm g.1 g.2 = some b
inductive Stp (P : Program) (G : Nat) (cal : Cal) (yld : Yld) (T : Tr Nat) (ops : Array Oper) (i : Nat) (o : Oper) (s : St) (e : List Pd) (s' : St) (e' : List Pd) (k : Kd) (v : AV) : Prop where
  | z (hg : Gw ops s.tm o false) (hv : v = .t .nil) (hh : s'.h = s.h) (hn : s'.nx = s.nx) (he : e' = e) (hk : k = .z)
  | pv (hg : Gw ops s.tm o true) (ho : opOut P G cal yld (rstE o s.tm) o = some (.pv v)) (hh : s'.h = s.h) (hn : s'.nx = s.nx) (he : e' = e) (hk : k = .z)
  | rd (f : Tr AO → Option AV) (hg : Gw ops s.tm o true) (ho : opOut P G cal yld (rstE o s.tm) o = some (.rd f)) (hv : f s.h = some v) (hb : v.bd s.nx = true) (hh : s'.h = s.h) (hn : s'.nx = s.nx) (he : e' = e) (hk : k = .r f v)
  | al (a : AO) (f : Nat → AV) (hg : Gw ops s.tm o true) (ho : opOut P G cal yld (rstE o s.tm) o = some (.al a f)) (hv : v = f s.nx) (hh : s'.h = s.h) (hn : s'.nx = s.nx + 1) (he : e' = (i, s.nx, a) :: e) (hk : k = .n a)
  | ac (f : Tr AO → Nat → Option (AV × Tr AO × Nat)) (hg : Gw ops s.tm o true) (ho : opOut P G cal yld (rstE o s.tm) o = some (.ac f)) (hv : f (flsA T i s.h e) s.nx = some (v, s'.h, s'.nx)) (hn : s.nx ≤ s'.nx) (he : e' = resP T i e) (hk : k = .c s'.h)
structure Run (P : Program) (G : Nat) (cal : Cal) (yld : Yld) (nt : Nat) (T : Tr Nat) (ops : Array Oper) (S : Nat → St) (E : Nat → List Pd) (K : Nat → Kd) (V : Nat → AV) : Prop where
  put : ∀ i o, ops[i]? = some o → putA o.dst nt (S i).tm (V i) = some (S (i + 1)).tm
  ms : ∀ i o, ops[i]? = some o → (S (i + 1)).ms = (S i).ms
  stp : ∀ i o, ops[i]? = some o → Stp P G cal yld T ops i o (S i) (E i) (S (i + 1)) (E (i + 1)) (K i) (V i)
section
variable {P : Program} {G nt : Nat} {cal : Cal} {yld : Yld} {T : Tr Nat} {ops : Array Oper}
theorem do1D_ok {i : Nat} {o : Oper} {s s' : St} {e e' : List Pd} {k : Kd} {out : Out} (hg : Gw ops s.tm o true) (ho : opOut P G cal yld (rstE o s.tm) o = some out) (h : do1D T nt i o.dst s e out = some (s', e', k)) :
    ∃ v, putA o.dst nt s.tm v = some s'.tm ∧ s'.ms = s.ms ∧ Stp P G cal yld T ops i o s e s' e' k v := by
  cases out with
  | pv v =>
    obtain ⟨t, h1, h⟩ := ob_eq h
    cases h
    exact ⟨v, h1, rfl, .pv hg ho rfl rfl rfl rfl⟩
  | rd f =>
    obtain ⟨v, h0, h⟩ := ob_eq h
    obtain ⟨hb, h⟩ := iff_eq h
    obtain ⟨t, h1, h⟩ := ob_eq h
    cases h
    exact ⟨v, h1, rfl, .rd f hg ho h0 hb rfl rfl rfl rfl⟩
  | al a f =>
    obtain ⟨t, h1, h⟩ := ob_eq h
    rw [fN_eq] at h
    cases h
    exact ⟨_, h1, rfl, .al a f hg ho rfl rfl rfl rfl rfl⟩
  | ac f =>
    obtain ⟨r, h0, h⟩ := ob_eq h
    obtain ⟨hb, h⟩ := iff_eq h
    obtain ⟨t, h1, h⟩ := ob_eq h
    cases h
    exact ⟨_, h1, rfl, .ac f hg ho h0 (Nat.le_of_ble_eq_true hb) rfl rfl⟩
theorem ev1D_ok {i : Nat} {o : Oper} {s s' : St} {e e' : List Pd} {k : Kd} (h : ev1D P G cal yld nt T ops i o s e = some (s', e', k)) :
    ∃ v, putA o.dst nt s.tm v = some s'.tm ∧ s'.ms = s.ms ∧ Stp P G cal yld T ops i o s e s' e' k v := by
  obtain ⟨b, h1, h⟩ := ob_eq h
  have hg : Gw ops s.tm o b := by
    split at h1
    · rename_i hn
      cases h1
      exact .inl ⟨hn, rfl⟩
    · rename_i g hn
      exact .inr ⟨g, hn, h1⟩
  cases b with
  | false =>
    obtain ⟨t, h2, h⟩ := ob_eq h
    cases h
    exact ⟨_, h2, rfl, .z hg rfl rfl rfl rfl rfl⟩
  | true =>
    obtain ⟨out, h2, h⟩ := ob_eq h
    rw [opOutF_eq] at h2
    exact do1D_ok hg h2 h
theorem evLD_run : ∀ (l : List Oper) (i : Nat) {s sf : St} {e ef : List Pd} {ks : List Kd}, evLD P G cal yld nt T ops l i s e = some (sf, ef, ks) →
    ∃ (S : Nat → St) (E : Nat → List Pd) (K : Nat → Kd) (V : Nat → AV), S 0 = s ∧ E 0 = e ∧ S l.length = sf ∧ E l.length = ef ∧ ks.length = l.length ∧ (∀ k, k < l.length → ks[k]? = some (K k)) ∧
      ∀ k o, l[k]? = some o → putA o.dst nt (S k).tm (V k) = some (S (k + 1)).tm ∧ (S (k + 1)).ms = (S k).ms ∧ Stp P G cal yld T ops (i + k) o (S k) (E k) (S (k + 1)) (E (k + 1)) (K k) (V k)
  | [], i, s, sf, e, ef, ks, h => by
    cases h
    exact ⟨fun _ => s, fun _ => e, fun _ => .z, fun _ => .nil, rfl, rfl, rfl, rfl, rfl, fun k hk => absurd hk (Nat.not_lt_zero k), fun k o hk => by simp at hk⟩
  | o :: l, i, s, sf, e, ef, ks, h => by
    obtain ⟨⟨s1, e1, k1⟩, h1, h⟩ := ob_eq h
    obtain ⟨⟨s2, e2, ks2⟩, h2, h⟩ := ob_eq h
    cases h
    obtain ⟨v, a1, a2, a3⟩ := ev1D_ok h1
    obtain ⟨S, E, K, V, b1, b2, b3, b4, b5, b6, b7⟩ := evLD_run l (i + 1) h2
    refine ⟨fun k => match k with | 0 => s | k + 1 => S k, fun k => match k with | 0 => e | k + 1 => E k, fun k => match k with | 0 => k1 | k + 1 => K k, fun k => match k with | 0 => v | k + 1 => V k, rfl, rfl, b3, b4, by simp [b5], fun k hk => ?_, fun k o' hk => ?_⟩
    · cases k with
      | zero => rfl
      | succ k => exact b6 k (by simpa using hk)
    · cases k with
      | zero =>
        cases hk
        show putA o.dst nt s.tm v = some (S 0).tm ∧ (S 0).ms = s.ms ∧ Stp P G cal yld T ops (i + 0) o s e (S 0) (E 0) k1 v
        rw [b1, b2]
        exact ⟨a1, a2, a3⟩
      | succ k =>
        have := b7 k o' (by simpa using hk)
        rw [show i + 1 + k = i + (k + 1) by omega] at this
        exact this
end
end Go.Proofs.YthlphddehdjfjaaGreatDoor
