/- A reading of closed calls that the kernel can run: regions that draw their order: what holds along any order. -/
import Derived.Test.YthlphddehdjfjaaGreatDoorEwU
namespace Go.Proofs.YthlphddehdjfjaaGreatDoor
open Go.RowKit
set_option linter.unusedVariables false
set_option linter.unusedSimpArgs false
set_option linter.unusedSectionVars false

def rst (ρ : Rn) (n : Nat) : Rn := fun k => if k < n then ρ k else none
theorem rst_at {ρ : Rn} {n k : Nat} (h : k < n) : rst ρ n k = ρ k := if_pos h
theorem rst_top {ρ : Rn} {n k : Nat} (h : n ≤ k) : rst ρ n k = none := if_neg (by omega)
theorem rst_le (ρ : Rn) (n : Nat) : (rst ρ n).le ρ := fun k x h => by
  unfold rst at h
  split at h
  · exact h
  · cases h
theorem rst_mono {ρ ρ' : Rn} {m n : Nat} (h : ρ.le ρ') (hm : m ≤ n) : (rst ρ m).le (rst ρ' n) := fun k x e => by
  unfold rst at e ⊢
  split at e
  · rw [if_pos (by omega)]; exact h _ _ e
  · cases e
theorem R.bd {ρ : Rn} {n : Nat} {a : AV} {vs : VL} (h : R ρ a vs) : a.bd n = true → R (rst ρ n) a vs := by
  have lt : ∀ {id : Nat} {x : Nat × Nat}, ρ id = some x → Nat.blt id n = true → rst ρ n id = some x := fun h e => by rw [Nat.blt_eq] at e; rw [rst_at e]; exact h
  have two : ∀ {x y : Bool}, Bool.rec (motive := fun _ => Bool) false x y = true → y = true ∧ x = true := fun {x y} h => by cases y <;> cases x <;> simp_all
  induction h with
  | any h => exact fun _ => .any h
  | b x => exact fun _ => .b x
  | i k n => exact fun _ => .i k n
  | s x => exact fun _ => .s x
  | p h => exact fun e => .p (lt h e)
  | np => exact fun _ => .np
  | sl h hc => exact fun e => .sl (lt h e) hc
  | gs h hc => exact fun e => .gs (lt h e) hc
  | ns => exact fun _ => .ns
  | m h => exact fun e => .m (lt h e)
  | nm => exact fun _ => .nm
  | f _ ih => exact fun e => .f (ih e)
  | fy h => exact fun e => .fy (lt h e)
  | nf => exact fun _ => .nf
  | x _ ih => exact fun e => .x (ih e)
  | nx => exact fun _ => .nx
  | a _ ih => exact fun e => .a (ih e)
  | t _ ih => exact fun e => .t (ih e)
  | nil => exact fun _ => .nil
  | cons _ _ h1 h2 => exact fun e => .cons (h1 (two e).1) (h2 (two e).2)
  | md h => exact fun _ => .md h
  | fb _ _ h1 h2 => exact fun e => .fb (h1 (two e).1) (h2 (two e).2)
section
variable {G nx nx' : Nat} {ρ ρ' : Rn} {h : Hp'} {w : World}
theorem Lay.ext (l : Lay G ρ h nx w) (hl : ρ.le ρ') (ht : ∀ i, nx' ≤ i → ρ' i = none) : Lay G ρ' h nx' w := by
  have back : ∀ i o x, h i = some o → ρ' i = some x → ρ i = some x := fun i o x e r => by
    obtain ⟨bk, C, y, h1, _, _⟩ := l.obj i o e
    rw [hl _ _ h1] at r; cases r; exact h1
  exact ⟨fun i o e => let ⟨bk, C, y, h1, h2, h3⟩ := l.obj i o e; ⟨bk, C, y, hl _ _ h1, h2, h3.mono hl⟩, fun i j o o' bk C C' e e' r r' => l.inj i j o o' bk C C' e e' (back _ _ _ e r) (back _ _ _ e' r'), ht, fun g hg => hl _ _ (l.glb g hg)⟩
theorem Im.back (l : Lay G ρ h nx w) (hl : ρ.le ρ') {b : Nat} (hb : Im ρ' h b) : Im ρ h b := by
  obtain ⟨i, o, C, e, r⟩ := hb
  obtain ⟨bk, C', y, h1, _, _⟩ := l.obj i o e
  have := hl _ _ h1
  rw [this] at r; cases r
  exact ⟨i, o, _, e, h1⟩
theorem Lay.add (l : Lay G ρ h nx w) {i bk C : Nat} {o : AO} {x : Obj} (r : ρ i = some (bk, C)) (hx : w.heap[bk]? = some x) (ho : OR ρ C o x) (hn : ¬ Im ρ h bk) : Lay G ρ (hup h i o) nx w := by
  have hho : ∀ j, j ≠ i → hup h i o j = h j := fun j hj => if_neg hj
  have hnew : hup h i o i = some o := if_pos rfl
  refine ⟨fun j q e => ?_, fun j j' q q' b D D' e e' rj rj' => ?_, l.top, l.glb⟩
  · by_cases hj : j = i
    · subst hj
      rw [hnew] at e; cases e
      exact ⟨bk, C, x, r, hx, ho⟩
    · rw [hho j hj] at e
      exact l.obj j q e
  · by_cases hj : j = i <;> by_cases hj' : j' = i
    · rw [hj, hj']
    · subst hj
      rw [hho j' hj'] at e'
      rw [r] at rj; cases rj
      exact absurd ⟨j', q', D', e', rj'⟩ hn
    · subst hj'
      rw [hho j hj] at e
      rw [r] at rj'; cases rj'
      exact absurd ⟨j, q, D, e, rj⟩ hn
    · rw [hho j hj] at e; rw [hho j' hj'] at e'
      exact l.inj j j' q q' b D D' e e' rj rj'
end

section
variable {P : Program} {G nt : Nat} {cal : Cal} {yld : Yld} {T : Tr Nat} {ops : Array Oper} {S : Nat → St} {E : Nat → List Pd} {K : Nat → Kd} {V : Nat → AV}
theorem at_op {i : Nat} (hi : i < ops.size) : ops[i]? = some ops[i] := by simp [hi]
theorem op_lt {i : Nat} {o : Oper} (h : ops[i]? = some o) : i < ops.size := (Array.getElem?_eq_some_iff.1 h).1
section lex
theorem Run.nx1 (hr : Run P G cal yld nt T ops S E K V) {i : Nat} (hi : i < ops.size) : (S i).nx ≤ (S (i + 1)).nx := by
  cases hr.stp i _ (at_op hi) with
  | z _ _ _ hn => omega
  | pv _ _ _ hn => omega
  | rd _ _ _ _ _ _ hn => omega
  | al _ _ _ _ _ _ hn => omega
  | ac _ _ _ _ hn => omega
theorem Run.nx (hr : Run P G cal yld nt T ops S E K V) {i j : Nat} (hij : i ≤ j) (hj : j ≤ ops.size) : (S i).nx ≤ (S j).nx := by
  induction j with
  | zero => have : i = 0 := by omega
            subst this; exact Nat.le_refl _
  | succ j ih =>
    by_cases he : i = j + 1
    · subst he; exact Nat.le_refl _
    · exact Nat.le_trans (ih (by omega) (by omega)) (hr.nx1 (by omega))
theorem Run.ms0 (hr : Run P G cal yld nt T ops S E K V) {i : Nat} (hi : i ≤ ops.size) : (S i).ms = (S 0).ms := by
  induction i with
  | zero => rfl
  | succ i ih => exact (hr.ms i _ (at_op (by omega))).trans (ih (by omega))
theorem Run.tt (hr : Run P G cal yld nt T ops S E K V) {i : Nat} (hi : i ≤ ops.size) : (S i).tm.t = (S 0).tm.t := by
  induction i with
  | zero => rfl
  | succ i ih =>
    rw [← ih (by omega)]
    rcases putA_eq (hr.put i _ (at_op (by omega))) with ⟨_, e⟩ | ⟨k, _, _, e⟩
    · rw [e]
    · rw [e]; rfl
theorem Run.tm0 (hr : Run P G cal yld nt T ops S E K V) {t : Nat} (ht : ∀ (j : Nat) (o : Oper), ops[j]? = some o → o.dst ≠ some t) {i : Nat} (hi : i ≤ ops.size) : (S i).tm.get t = (S 0).tm.get t := by
  induction i with
  | zero => rfl
  | succ i ih =>
    rw [← ih (by omega)]
    rcases putA_eq (hr.put i _ (at_op (by omega))) with ⟨_, e⟩ | ⟨k, hk, _, e⟩
    · rw [e]
    · rw [e, En.get_put, if_neg]
      intro e'
      subst e'
      exact ht i _ (at_op (by omega)) hk
theorem Run.tm0b (hr : Run P G cal yld nt T ops S E K V) {t : Nat} {i : Nat} (ht : ∀ (j : Nat) (o : Oper), j < i → ops[j]? = some o → o.dst ≠ some t) (hi : i ≤ ops.size) : (S i).tm.get t = (S 0).tm.get t := by
  induction i with
  | zero => rfl
  | succ i ih =>
    rw [← ih (fun j o hj => ht j o (by omega)) (by omega)]
    rcases putA_eq (hr.put i _ (at_op (by omega))) with ⟨_, e⟩ | ⟨k, hk, _, e⟩
    · rw [e]
    · rw [e, En.get_put, if_neg]
      intro e'
      subst e'
      exact ht i _ (Nat.lt_succ_self i) (at_op (by omega)) hk
theorem Run.tmD (hr : Run P G cal yld nt T ops S E K V) (tx : Tx T ops) {j : Nat} {o : Oper} {t : Tmp} (ho : ops[j]? = some o) (ht : o.dst = some t) {i : Nat} (hji : j < i) (hi : i ≤ ops.size) : (S i).tm.get t = some (V j) ∧ t < nt := by
  induction i with
  | zero => omega
  | succ i ih =>
    by_cases he : i = j
    · subst he
      rcases putA_eq (hr.put i _ ho) with ⟨e1, _⟩ | ⟨k, hk, hlt, e⟩
      · rw [ht] at e1; cases e1
      · rw [ht] at hk; cases hk
        exact ⟨by rw [e, En.get_put, if_pos rfl], hlt⟩
    · obtain ⟨h1, h2⟩ := ih (by omega) (by omega)
      refine ⟨?_, h2⟩
      rw [← h1]
      rcases putA_eq (hr.put i _ (at_op (by omega))) with ⟨_, e⟩ | ⟨k, hk, _, e⟩
      · rw [e]
      · rw [e, En.get_put, if_neg]
        intro e'
        subst e'
        exact he (tx.uni i j _ o t (at_op (by omega)) ho ht hk)
theorem Run.seg (hr : Run P G cal yld nt T ops S E K V) {κ i : Nat} (hi : i ≤ ops.size) (hκ : κ ≤ i) (hn : ∀ c h, K c = .c h → κ ≤ c → i ≤ c) : (S i).h = (S κ).h := by
  induction i with
  | zero => have : κ = 0 := by omega
            subst this; rfl
  | succ i ih =>
    by_cases he : κ = i + 1
    · subst he; rfl
    · rw [← ih (by omega) (by omega) (fun c h hc hk => by have := hn c h hc hk; omega)]
      cases hr.stp i _ (at_op (by omega)) with
      | z _ _ hh => exact hh
      | pv _ _ hh => exact hh
      | rd _ _ _ _ _ hh => exact hh
      | al _ _ _ _ _ hh => exact hh
      | ac _ _ _ _ _ _ hk => have := hn i _ hk (by omega); omega
theorem Run.pend (hr : Run P G cal yld nt T ops S E K V) (h0 : E 0 = []) {i : Nat} (hi : i ≤ ops.size) : (∀ q ∈ E i, q.1 < i ∧ K q.1 = .n q.2.2 ∧ q.2.1 = (S q.1).nx ∧ ∀ c h, K c = .c h → q.1 < c → c < i → (bfA T c).testBit q.1 = false) ∧
    (E i).Pairwise (fun q q' => q'.1 < q.1) := by
  induction i with
  | zero => rw [h0]; exact ⟨fun q hq => (by cases hq), .nil⟩
  | succ i ih =>
    obtain ⟨a1, a2⟩ := ih (by omega)
    have same : (∀ h, K i ≠ .c h) → E (i + 1) = E i → (∀ q ∈ E (i + 1), q.1 < i + 1 ∧ K q.1 = .n q.2.2 ∧ q.2.1 = (S q.1).nx ∧ ∀ c h, K c = .c h → q.1 < c → c < i + 1 → (bfA T c).testBit q.1 = false) ∧
        (E (i + 1)).Pairwise (fun q q' => q'.1 < q.1) := fun hk e => by
      rw [e]
      refine ⟨fun q hq => ?_, a2⟩
      obtain ⟨b1, b2, b3, b4⟩ := a1 q hq
      refine ⟨by omega, b2, b3, fun c h hc h1 h2 => b4 c h hc h1 ?_⟩
      have : c ≠ i := fun e => by subst e; exact hk _ hc
      omega
    cases hr.stp i _ (at_op (by omega)) with
    | z _ _ _ _ he hk => exact same (fun h e => by rw [hk] at e; cases e) he
    | pv _ _ _ _ he hk => exact same (fun h e => by rw [hk] at e; cases e) he
    | rd _ _ _ _ _ _ _ he hk => exact same (fun h e => by rw [hk] at e; cases e) he
    | al a f _ _ _ _ _ he hk =>
      rw [he]
      refine ⟨fun q hq => ?_, .cons (fun q hq => (a1 q hq).1) a2⟩
      cases hq with
      | head => exact ⟨Nat.lt_succ_self i, hk, rfl, fun c h hc h1 h2 => by have h1' : i < c := h1; omega⟩
      | tail _ hq =>
        obtain ⟨b1, b2, b3, b4⟩ := a1 q hq
        refine ⟨by omega, b2, b3, fun c h hc h1 h2 => b4 c h hc h1 ?_⟩
        have : c ≠ i := fun e => by subst e; rw [hk] at hc; cases hc
        omega
    | ac f _ _ _ _ he hk =>
      have key : ∀ l : List Pd, (∀ q ∈ resP T i l, q ∈ l ∧ (bfA T i).testBit q.1 = false) ∧ (resP T i l).Sublist l := by
        intro l
        induction l with
        | nil => exact ⟨fun q hq => (by cases hq), .slnil⟩
        | cons q l ih =>
          have e : resP T i (q :: l) = Bool.rec (motive := fun _ => List Pd) (q :: resP T i l) (resP T i l) ((bfA T i).testBit q.1) := rfl
          rw [e]
          cases hb : (bfA T i).testBit q.1 with
          | true => exact ⟨fun q' hq' => ⟨.tail _ (ih.1 q' hq').1, (ih.1 q' hq').2⟩, ih.2.cons _⟩
          | false =>
            refine ⟨fun q' hq' => ?_, ih.2.cons_cons _⟩
            cases hq' with
            | head => exact ⟨.head _, hb⟩
            | tail _ hq' => exact ⟨.tail _ (ih.1 q' hq').1, (ih.1 q' hq').2⟩
      rw [he]
      refine ⟨fun q hq => ?_, a2.sublist (key (E i)).2⟩
      obtain ⟨c1, c2⟩ := (key (E i)).1 q hq
      obtain ⟨b1, b2, b3, b4⟩ := a1 q c1
      refine ⟨by omega, b2, b3, fun c h hc h1 h2 => ?_⟩
      by_cases hci : c = i
      · subst hci; exact c2
      · exact b4 c h hc h1 (by omega)
end lex

/-- the heap behind the acts ahead of κ -/
noncomputable def hpK (κ : Nat) (l : List (Nat × Tr AO)) : Tr AO → Tr AO := List.rec (motive := fun _ => Tr AO → Tr AO) (fun cur => cur) (fun c _ ih cur => if c.1 < κ then ih c.2 else cur) l
theorem hpK_cons (κ : Nat) (c : Nat × Tr AO) (l : List (Nat × Tr AO)) (cur : Tr AO) : hpK κ (c :: l) cur = if c.1 < κ then hpK κ l c.2 else cur := rfl
theorem winA_ok {r κ : Nat} {f : Tr AO → Option AV} {v : AV} : ∀ {l : List (Nat × Tr AO)} {cur : Tr AO}, winA T r f v l cur = true → l.Pairwise (fun q q' => q.1 < q'.1) → (∀ q ∈ l, (bfA T r).testBit q.1 = true → q.1 < κ) →
    (∀ q ∈ l, q.1 < κ → (bfA T q.1).testBit r = false) → f (hpK κ l cur) = some v
  | [], cur, h, _, _, _ => of_decide_eq_true h
  | c :: l, cur, h, hs, h1, h2 => by
    replace h : Bool.and (Bool.or (List.any (c :: l) fun q => (bfA T r).testBit q.1) (decide (f cur = some v))) (Bool.or ((bfA T c.1).testBit r) (winA T r f v l c.2)) = true := h
    obtain ⟨ha, hb⟩ : (List.any (c :: l) (fun q => (bfA T r).testBit q.1) = true ∨ decide (f cur = some v) = true) ∧ ((bfA T c.1).testBit r = true ∨ winA T r f v l c.2 = true) := by simpa using h
    rw [hpK_cons]
    cases hs with
    | cons s1 s2 =>
      split
      · rename_i hc
        rcases hb with hb | hb
        · rw [h2 c (.head _) hc] at hb; cases hb
        · exact winA_ok hb s2 (fun q hq => h1 q (.tail _ hq)) (fun q hq => h2 q (.tail _ hq))
      · rename_i hc
        rcases ha with ha | ha
        · obtain ⟨q, hq, hb⟩ := List.any_eq_true.1 ha
          have := h1 q hq hb
          cases hq with
          | head => exact absurd this hc
          | tail _ hq => have := s1 q hq; omega
        · exact of_decide_eq_true ha
theorem actsA_ge : ∀ (ks : List Kd) (p : Nat), ∀ q ∈ actsA ks p, p ≤ q.1
  | [], p, q, hq => by cases hq
  | k :: ks, p, q, hq => by
    have e : actsA (k :: ks) p = acK k p (actsA ks (p + 1)) := rfl
    rw [e] at hq
    unfold acK at hq
    split at hq
    · cases hq with
      | head => exact Nat.le_refl _
      | tail _ hq => have := actsA_ge ks (p + 1) q hq; omega
    · have := actsA_ge ks (p + 1) q hq; omega
theorem actsA_sort : ∀ (ks : List Kd) (p : Nat), (actsA ks p).Pairwise (fun q q' => q.1 < q'.1)
  | [], p => .nil
  | k :: ks, p => by
    have e : actsA (k :: ks) p = acK k p (actsA ks (p + 1)) := rfl
    rw [e]
    unfold acK
    split
    · exact .cons (fun q hq => by have := actsA_ge ks (p + 1) q hq; omega) (actsA_sort ks (p + 1))
    · exact actsA_sort ks (p + 1)
theorem hpK_ge {κ : Nat} : ∀ {l : List (Nat × Tr AO)} {cur : Tr AO}, (∀ q ∈ l, κ ≤ q.1) → hpK κ l cur = cur
  | [], cur, _ => rfl
  | c :: l, cur, h => by rw [hpK_cons, if_neg (by have := h c (.head _); omega)]
theorem actsA_mem : ∀ (ks : List Kd) (p : Nat), (∀ q ∈ actsA ks p, ∃ k, q.1 = p + k ∧ ks[k]? = some (.c q.2)) ∧ ∀ (k : Nat) h, ks[k]? = some (.c h) → (p + k, h) ∈ actsA ks p
  | [], p => ⟨fun q hq => (by cases hq), fun k h hk => by simp at hk⟩
  | k :: ks, p => by
    obtain ⟨a1, a2⟩ := actsA_mem ks (p + 1)
    have e : actsA (k :: ks) p = acK k p (actsA ks (p + 1)) := rfl
    have tl : ∀ q ∈ actsA ks (p + 1), ∃ j, q.1 = p + j ∧ (k :: ks)[j]? = some (.c q.2) := fun q hq => let ⟨j, h1, h2⟩ := a1 q hq; ⟨j + 1, by omega, by simpa using h2⟩
    have tr : ∀ (j : Nat) h, ks[j]? = some (.c h) → (p + (j + 1), h) ∈ actsA ks (p + 1) := fun j h hj => by have := a2 j h hj; rwa [show p + 1 + j = p + (j + 1) by omega] at this
    rw [e]
    unfold acK
    split
    · rename_i h0
      refine ⟨fun q hq => ?_, fun j h hj => ?_⟩
      · cases hq with
        | head => exact ⟨0, rfl, rfl⟩
        | tail _ hq => exact tl q hq
      · cases j with
        | zero => cases hj; exact .head _
        | succ j => exact .tail _ (tr j h (by simpa using hj))
    · rename_i hne
      refine ⟨tl, fun j h hj => ?_⟩
      cases j with
      | zero => simp at hj; exact absurd hj (hne h)
      | succ j => exact tr j h (by simpa using hj)
theorem hpK_run (hr : Run P G cal yld nt T ops S E K V) : ∀ (ks : List Kd) (p κ : Nat), (∀ k, k < ks.length → ks[k]? = some (K (p + k))) → p + ks.length = ops.size → p ≤ κ → κ ≤ ops.size → hpK κ (actsA ks p) (S p).h = (S κ).h
  | [], p, κ, hk, hl, h1, h2 => by
    have : p = κ := by simp at hl; omega
    subst this; rfl
  | k :: ks, p, κ, hk, hl, h1, h2 => by
    have hp : p < ops.size := by simp at hl; omega
    have hk0 : k = K p := by have := hk 0 (by simp); simpa using this
    have hks : ∀ j, j < ks.length → ks[j]? = some (K (p + 1 + j)) := fun j hj => by
      have := hk (j + 1) (by simpa using hj)
      rw [show p + 1 + j = p + (j + 1) by omega]
      simpa using this
    have hl' : p + 1 + ks.length = ops.size := by simp at hl; omega
    have e : actsA (k :: ks) p = acK k p (actsA ks (p + 1)) := rfl
    by_cases hpk : p = κ
    · subst hpk
      exact hpK_ge (actsA_ge _ _)
    · have ih := hpK_run hr ks (p + 1) κ hks hl' (by omega) h2
      rw [e]
      have quiet : (∀ h, k ≠ .c h) → (S (p + 1)).h = (S p).h → hpK κ (acK k p (actsA ks (p + 1))) (S p).h = (S κ).h := fun hq hh => by
        rw [hh] at ih
        unfold acK
        split
        · rename_i h0; exact absurd rfl (hq _)
        · exact ih
      cases hr.stp p _ (at_op hp) with
      | z _ _ hh _ _ hk' => exact quiet (fun h e => by rw [hk0, hk'] at e; cases e) hh
      | pv _ _ hh _ _ hk' => exact quiet (fun h e => by rw [hk0, hk'] at e; cases e) hh
      | rd _ _ _ _ _ hh _ _ hk' => exact quiet (fun h e => by rw [hk0, hk'] at e; cases e) hh
      | al _ _ _ _ _ hh _ _ hk' => exact quiet (fun h e => by rw [hk0, hk'] at e; cases e) hh
      | ac _ _ _ _ _ _ hk' =>
        rw [hk0, hk']
        show hpK κ ((p, (S (p + 1)).h) :: actsA ks (p + 1)) (S p).h = (S κ).h
        rw [hpK_cons, if_pos (show p < κ by omega)]
        exact ih
theorem chkA_at {acts : List (Nat × Tr AO)} {h0 : Tr AO} : ∀ (ks : List Kd) (p : Nat), chkA T acts h0 ks p = true → ∀ (k : Nat) (x : Kd), ks[k]? = some x → chK T acts h0 (p + k) x = true
  | [], p, h, k, x, hk => by simp at hk
  | y :: ks, p, h, k, x, hk => by
    replace h : Bool.and (chK T acts h0 p y) (chkA T acts h0 ks (p + 1)) = true := h
    rw [Bool.and_eq_true] at h
    cases k with
    | zero => cases hk; exact h.1
    | succ k =>
      have := chkA_at ks (p + 1) h.2 k x (by simpa using hk)
      rw [show p + (k + 1) = p + 1 + k by omega]
      exact this
end
end Go.Proofs.YthlphddehdjfjaaGreatDoor
