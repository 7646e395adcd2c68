/- A reading of closed calls that the kernel can run: regions that draw their order are read rightly. -/
import Derived.Test.YthlphddehdjfjaaGreatDoorEwV
namespace Go.Proofs.YthlphddehdjfjaaGreatDoor
open Go.RowKit
set_option linter.unusedVariables false
set_option linter.unusedSimpArgs false
set_option linter.unusedSectionVars false

/-- a new block that no act so far has laid into the table -/
def Pn (T : Tr Nat) (K : Nat → Kd) (κ j : Nat) (ao : AO) : Prop := K j = .n ao ∧ ∀ c h, K c = .c h → j < c → c < κ → (bfA T c).testBit j = false
structure TInv (nt : Nat) (ops : Array Oper) (S : Nat → St) (V : Nat → AV) (D : Nat → Prop) (ρ : Rn) (a : Act) : Prop where
  sz : a.tmps.size = nt
  t0 : ∀ (t : Nat) c, (∀ (j : Nat) (o : Oper), ops[j]? = some o → o.dst = some t → ¬ D j) → (S 0).tm.get t = some c → ∃ z, a.tmps[t]? = some z ∧ R (rst ρ (S 0).nx) c (.v z)
  tD : ∀ (j : Nat) (o : Oper) (t : Tmp), D j → ops[j]? = some o → o.dst = some t → ∃ z, a.tmps[t]? = some z ∧ R (rst ρ (S (j + 1)).nx) (V j) (.v z)
structure HInv (G : Nat) (T : Tr Nat) (ops : Array Oper) (S : Nat → St) (K : Nat → Kd) (ρ0 : Rn) (w0 : World) (D : Nat → Prop) (ρ : Rn) (κ : Nat) (w : World) : Prop where
  dm : ∀ k, (S 0).nx ≤ k → ρ k ≠ none → ∃ j, D j ∧ j < ops.size ∧ (S j).nx ≤ k ∧ k < (S (j + 1)).nx
  le : ρ0.le ρ
  fr : ∀ k, k < (S 0).nx → ρ k = ρ0 k
  kp : Keeps (Im ρ0 (S 0).h.get) w0 w
  kn : κ ≤ ops.size
  ka : ∀ c h, K c = .c h → c < ops.size → (D c ↔ c < κ)
  la : Lay G (rst ρ (S κ).nx) (S κ).h.get (S κ).nx w
  im : ∀ b, b < w0.heap.size → Im (rst ρ (S κ).nx) (S κ).h.get b → Im ρ0 (S 0).h.get b
  pe : ∀ j ao, D j → j < ops.size → Pn T K κ j ao → ∃ bk C x, ρ (S j).nx = some (bk, C) ∧ w.heap[bk]? = some x ∧ OR (rst ρ (S (j + 1)).nx) C ao x ∧ w0.heap.size ≤ bk ∧ ¬ Im (rst ρ (S κ).nx) (S κ).h.get bk
  pi : ∀ j j' ao ao' bk C C', D j → D j' → j < ops.size → j' < ops.size → Pn T K κ j ao → Pn T K κ j' ao' → ρ (S j).nx = some (bk, C) → ρ (S j').nx = some (bk, C') → j = j'
abbrev D1 (D : Nat → Prop) (i : Nat) : Nat → Prop := fun k => D k ∨ k = i
section
variable {P : Program} {G nt : Nat} {cal : Cal} {yld : Yld} {T : Tr Nat} {ops : Array Oper} {S : Nat → St} {E : Nat → List Pd} {K : Nat → Kd} {V : Nat → AV}
  {ρ0 ρ ρ' : Rn} {w0 w w' : World} {D : Nat → Prop} {κ : Nat} {a : Act}
theorem rstL_get {t : Nat} {c : AV} {tm : En} : ∀ {l : List Operand}, getE (rstL l tm) t .e = some c → Operand.tmp t ∈ l ∧ tm.get t = some c
  | [], h => by cases h
  | x :: l, h => by
    have ih := fun h => rstL_get (t := t) (c := c) (tm := tm) (l := l) h
    have skip : getE (rstL l tm) t .e = some c → Operand.tmp t ∈ x :: l ∧ tm.get t = some c := fun h => ⟨.tail _ (ih h).1, (ih h).2⟩
    cases x with
    | tmp t' =>
      replace h : getE (Option.rec (motive := fun _ => List (Nat × AV)) (rstL l tm) (fun v => (t', v) :: rstL l tm) (tm.get t')) t .e = some c := h
      cases hv : tm.get t' with
      | none => rw [hv] at h; exact skip h
      | some v =>
        rw [hv] at h
        replace h : Bool.rec (motive := fun _ => Option AV) (getE (rstL l tm) t .e) (some v) (Nat.beq t' t) = some c := h
        cases hb : Nat.beq t' t with
        | false => rw [hb] at h; exact skip h
        | true =>
          rw [hb] at h
          have := Nat.eq_of_beq_eq_true hb
          subst this
          cases h
          exact ⟨.head _, hv⟩
    | _ => exact skip h
/-- the temporaries that an operation reads -/
theorem TInv.tr (hr : Run P G cal yld nt T ops S E K V) (tx : Tx T ops) (t : TInv nt ops S V D ρ a) {i : Nat} {o : Oper} (ho : ops[i]? = some o) (hb : ∀ j, (bfA T i).testBit j = true → D j) (hD : ¬ D i) (hcl : ∀ c, D c → c < ops.size → ∀ j, (bfA T c).testBit j = true → D j) {m : Nat} (hm : (S i).nx ≤ m) : TR (rst ρ m) (rstE o (S i).tm) nt a.tmps := by
  refine ⟨t.sz, fun k c h => ?_⟩
  obtain ⟨h1, h2⟩ := rstL_get h
  have hi := op_lt ho
  by_cases hd : ∃ (j : Nat) (q : Oper), ops[j]? = some q ∧ q.dst = some k
  · obtain ⟨j, q, hq, hqd⟩ := hd
    rcases tx.opn i j o q k ho hq hqd h1 with ⟨b1, b2⟩ | ⟨b1, b2⟩
    · obtain ⟨z, e1, e2⟩ := t.tD j q k (hb j b1) hq hqd
      rw [(hr.tmD tx hq hqd b2 (by omega)).1] at h2
      cases h2
      exact ⟨z, e1, e2.mono (rst_mono (.refl _) (Nat.le_trans (hr.nx (by omega) (by omega)) hm))⟩
    · have only : ∀ (j' : Nat) (q' : Oper), ops[j']? = some q' → q'.dst = some k → j' = j := fun j' q' hq' hd' => (tx.uni j j' q q' k hq hq' hd' hqd).symm
      rw [hr.tm0b (fun j' q' hlt hq' hd' => by have := only j' q' hq' hd'; omega) (by omega)] at h2
      obtain ⟨z, e1, e2⟩ := t.t0 k c (fun j' q' hq' hd' hdj => by
        have := only j' q' hq' hd'
        subst this
        exact hD (hcl j' hdj (op_lt hq') i b1)) h2
      exact ⟨z, e1, e2.mono (rst_mono (.refl _) (Nat.le_trans (hr.nx (Nat.zero_le _) (by omega)) hm))⟩
  · have hd' : ∀ (j : Nat) (q : Oper), ops[j]? = some q → q.dst ≠ some k := fun j q hq e => hd ⟨j, q, hq, e⟩
    rw [hr.tm0 hd' (by omega)] at h2
    obtain ⟨z, e1, e2⟩ := t.t0 k c (fun j q hq e => (hd' j q hq e).elim) h2
    exact ⟨z, e1, e2.mono (rst_mono (.refl _) (Nat.le_trans (hr.nx (Nat.zero_le _) (by omega)) hm))⟩
theorem TInv.wn (hr : Run P G cal yld nt T ops S E K V) (tx : Tx T ops) (t : TInv nt ops S V D ρ a) {i : Nat} {o : Oper} {b : Bool} (ho : ops[i]? = some o) (hb : ∀ j, (bfA T i).testBit j = true → D j) (hg : Gw ops (S i).tm o b) : Region.wanted o (yielded ops a.tmps) = b := by
  have hi := op_lt ho
  unfold Region.wanted
  rcases hg with ⟨h1, rfl⟩ | ⟨g, h1, h2⟩
  · rw [h1]
  · rw [h1]
    obtain ⟨b1, b2⟩ := tx.gua i o g.1 g.2 ho h1
    have hD := hb _ b1
    show (yielded ops a.tmps g.1 == some g.2) = b
    unfold gdA at h2
    split at h2
    · rename_i q hq
      split at h2
      · rename_i d hd
        obtain ⟨z, e1, e2⟩ := t.tD g.1 q d hD hq hd
        rw [(hr.tmD tx hq hd b2 (by omega)).1] at h2
        have hy : yielded ops a.tmps g.1 = (match (some z : Option Value) with | some (.bool b) => some b | _ => none) := by unfold yielded; simp only [hq, hd, Option.bind_some, e1]; rfl
        rw [hy]
        split at h2
        · rename_i x hx
          simp only [Option.some.injEq] at hx
          rw [hx] at e2
          cases e2
          cases h2
          obtain ⟨g1, g2⟩ := g
          cases g2 <;> cases x <;> rfl
        · rename_i hx
          simp only [Option.some.injEq] at hx
          rw [hx] at e2
          cases e2
          cases h2
          rfl
        · cases h2
      · cases h2
    · cases h2
theorem TInv.put (hr : Run P G cal yld nt T ops S E K V) (tx : Tx T ops) (t : TInv nt ops S V D ρ a) (hl : ρ.le ρ') {i : Nat} {o : Oper} (ho : ops[i]? = some o) {z : Value} (hz : R (rst ρ' (S (i + 1)).nx) (V i) (.v z)) : TInv nt ops S V (D1 D i) ρ' (a.put o.dst z) := by
  have hi := op_lt ho
  cases hd : o.dst with
  | none =>
    refine ⟨t.sz, fun k c h1 h2 => let ⟨y, e1, e2⟩ := t.t0 k c (fun j q hq e hd => h1 j q hq e (.inl hd)) h2; ⟨y, e1, e2.mono (rst_mono hl (Nat.le_refl _))⟩, fun j q k hj hq hk => ?_⟩
    rcases hj with hj | rfl
    · obtain ⟨y, e1, e2⟩ := t.tD j q k hj hq hk
      exact ⟨y, e1, e2.mono (rst_mono hl (Nat.le_refl _))⟩
    · rw [ho] at hq; cases hq
      rw [hd] at hk; cases hk
  | some d =>
    have hlt := (hr.tmD tx ho hd (Nat.lt_succ_self i) (by omega)).2
    refine ⟨?_, fun k c h1 h2 => ?_, fun j q k hj hq hk => ?_⟩
    · show (a.tmps.setIfInBounds d z).size = nt
      rw [Array.size_setIfInBounds]; exact t.sz
    · obtain ⟨y, e1, e2⟩ := t.t0 k c (fun j q hq e hd => h1 j q hq e (.inl hd)) h2
      refine ⟨y, ?_, e2.mono (rst_mono hl (Nat.le_refl _))⟩
      show (a.tmps.setIfInBounds d z)[k]? = some y
      rw [Array.getElem?_setIfInBounds_ne (fun e => h1 i o ho (by rw [hd, e]) (.inr rfl))]
      exact e1
    · by_cases hji : j = i
      · subst hji
        rw [ho] at hq; cases hq
        rw [hd] at hk; cases hk
        refine ⟨z, ?_, hz⟩
        show (a.tmps.setIfInBounds d z)[d]? = some z
        simp [t.sz, hlt]
      · obtain ⟨y, e1, e2⟩ := t.tD j q k (hj.resolve_right hji) hq hk
        refine ⟨y, ?_, e2.mono (rst_mono hl (Nat.le_refl _))⟩
        show (a.tmps.setIfInBounds d z)[k]? = some y
        rw [Array.getElem?_setIfInBounds_ne (fun e => hji (tx.uni j i q o d hq ho hd (by rw [hk, e])))]
        exact e1
theorem HInv.grow (h : HInv G T ops S K ρ0 w0 D ρ κ w) {i : Nat} (h1 : ∀ hh, K i ≠ .c hh) (h2 : ∀ ao, K i ≠ .n ao) : HInv G T ops S K ρ0 w0 (D1 D i) ρ κ w := by
  have back : ∀ j ao, D1 D i j → Pn T K κ j ao → D j := fun j ao hj hp => hj.resolve_right fun e => by subst e; exact h2 _ hp.1
  exact ⟨fun k hk hn => let ⟨j, a1, a2⟩ := h.dm k hk hn; ⟨j, .inl a1, a2⟩, h.le, h.fr, h.kp, h.kn, fun c hh hc hlt => ⟨fun hd => hd.elim (fun hd => (h.ka c hh hc hlt).1 hd) (fun e => by subst e; exact absurd hc (h1 _)), fun hc' => .inl ((h.ka c hh hc hlt).2 hc')⟩,
    h.la, h.im, fun j ao hj hlt hp => h.pe j ao (back j ao hj hp) hlt hp, fun j j' ao ao' bk C C' hj hj' hlt hlt' hp hp' => h.pi j j' ao ao' bk C C' (back j ao hj hp) (back j' ao' hj' hp') hlt hlt' hp hp'⟩
/-- no name of an operation that is not done -/
theorem HInv.nid (hr : Run P G cal yld nt T ops S E K V) (h : HInv G T ops S K ρ0 w0 D ρ κ w) {i : Nat} (hi : i < ops.size) (hD : ¬ D i) {k : Nat} (h1 : (S i).nx ≤ k) (h2 : k < (S (i + 1)).nx) : ρ k = none := by
  cases hk : ρ k with
  | none => rfl
  | some x =>
    obtain ⟨j, a1, a2, a3, a4⟩ := h.dm k (Nat.le_trans (hr.nx (Nat.zero_le _) (by omega)) h1) (by rw [hk]; simp)
    by_cases hji : j = i
    · subst hji; exact absurd a1 hD
    · by_cases hlt : j < i
      · have := hr.nx (i := j + 1) (j := i) (by omega) (by omega); omega
      · have := hr.nx (i := i + 1) (j := j) (by omega) (by omega); omega
theorem HInv.alloc (hr : Run P G cal yld nt T ops S E K V) (h : HInv G T ops S K ρ0 w0 D ρ κ w) {i : Nat} (hi : i < ops.size) (hD : ¬ D i) {ao : AO} (hk : K i = .n ao) (hn : (S (i + 1)).nx = (S i).nx + 1) {C : Nat} {x : Obj}
    (hx : OR (rst (ρ.up (S i).nx (w.heap.size, C)) (S (i + 1)).nx) C ao x) : HInv G T ops S K ρ0 w0 (D1 D i) (ρ.up (S i).nx (w.heap.size, C)) κ (w.alloc x) := by
  have hno : ρ (S i).nx = none := h.nid hr hi hD (Nat.le_refl _) (by omega)
  have hle : ρ.le (ρ.up (S i).nx (w.heap.size, C)) := Rn.le_up _ hno
  have hold : ∀ k, k ≠ (S i).nx → (ρ.up (S i).nx (w.heap.size, C)) k = ρ k := fun k hk => if_neg hk
  have hnew := Rn.up_same ρ (S i).nx (w.heap.size, C)
  have h0 : (S 0).nx ≤ (S i).nx := hr.nx (Nat.zero_le _) (by omega)
  have hl2 : (rst ρ (S κ).nx).le (rst (ρ.up (S i).nx (w.heap.size, C)) (S κ).nx) := rst_mono hle (Nat.le_refl _)
  have la := (h.la.ext (nx' := (S κ).nx) hl2 (fun i hi => rst_top hi)).same ((Keeps.refl (fun _ => False) w).alloc x)
  have imb : ∀ b, Im (rst (ρ.up (S i).nx (w.heap.size, C)) (S κ).nx) (S κ).h.get b → Im (rst ρ (S κ).nx) (S κ).h.get b := fun b hb => Im.back h.la hl2 hb
  have dif : ∀ j, j < ops.size → D j → (∃ ao, K j = .n ao) → (S j).nx ≠ (S i).nx := fun j hj hd ⟨_, hkj⟩ e => by
    have hji : j ≠ i := fun e => by subst e; exact hD hd
    have hj1 : (S (j + 1)).nx = (S j).nx + 1 := by
      cases hr.stp j _ (at_op hj) with
      | z _ _ _ _ _ hk' => rw [hkj] at hk'; cases hk'
      | pv _ _ _ _ _ hk' => rw [hkj] at hk'; cases hk'
      | rd _ _ _ _ _ _ _ _ hk' => rw [hkj] at hk'; cases hk'
      | al _ _ _ _ _ _ hn' _ _ => exact hn'
      | ac _ _ _ _ _ _ hk' => rw [hkj] at hk'; cases hk'
    by_cases hlt : j < i
    · have := hr.nx (i := j + 1) (j := i) (by omega) (by omega); omega
    · have := hr.nx (i := i + 1) (j := j) (by omega) (by omega); omega
  refine ⟨fun k hk' hn' => ?_, h.le.trans hle, fun k hk' => (hold k (by omega)).trans (h.fr k hk'), h.kp.alloc x, h.kn, fun c hh hc hlt => ?_, la, fun b hb hi' => h.im b hb (imb b hi'), fun j ao' hj hlt hp => ?_, fun j j' ao1 ao2 bk C1 C2 hj hj' hlt hlt' hp hp' r r' => ?_⟩
  · by_cases hki : k = (S i).nx
    · subst hki; exact ⟨i, .inr rfl, hi, Nat.le_refl _, by omega⟩
    · rw [hold k hki] at hn'
      obtain ⟨j, a1, a2⟩ := h.dm k hk' hn'
      exact ⟨j, .inl a1, a2⟩
  · have hci : c ≠ i := fun e => by subst e; rw [hk] at hc; cases hc
    exact ⟨fun hd => (h.ka c hh hc hlt).1 (hd.resolve_right hci), fun hc' => .inl ((h.ka c hh hc hlt).2 hc')⟩
  · by_cases hji : j = i
    · subst hji
      have e := hp.1
      rw [hk] at e; cases e
      exact ⟨w.heap.size, C, x, hnew, alloc_new, hx, h.kp.size, fun hb => absurd (h.la.im_lt (imb _ hb)) (Nat.lt_irrefl _)⟩
    · have hjD := hj.resolve_right hji
      obtain ⟨bk, C', y, e1, e2, e3, e4, e5⟩ := h.pe j ao' hjD hlt hp
      exact ⟨bk, C', y, (hold _ (dif j hlt hjD ⟨_, hp.1⟩)).trans e1, alloc_old e2, e3.mono (rst_mono hle (Nat.le_refl _)), e4, fun hb => e5 (imb _ hb)⟩
  · by_cases hji : j = i <;> by_cases hji' : j' = i
    · rw [hji, hji']
    · subst hji
      have hjD := hj'.resolve_right hji'
      rw [hnew] at r; cases r
      rw [hold _ (dif j' hlt' hjD ⟨_, hp'.1⟩)] at r'
      obtain ⟨bk, C', y, e1, e2, _⟩ := h.pe j' ao2 hjD hlt' hp'
      rw [r'] at e1; cases e1
      exact absurd (lt_block e2) (Nat.lt_irrefl _)
    · subst hji'
      have hjD := hj.resolve_right hji
      rw [hnew] at r'; cases r'
      rw [hold _ (dif j hlt hjD ⟨_, hp.1⟩)] at r
      obtain ⟨bk, C', y, e1, e2, _⟩ := h.pe j ao1 hjD hlt hp
      rw [r] at e1; cases e1
      exact absurd (lt_block e2) (Nat.lt_irrefl _)
    · have hjD := hj.resolve_right hji
      have hjD' := hj'.resolve_right hji'
      rw [hold _ (dif j hlt hjD ⟨_, hp.1⟩)] at r
      rw [hold _ (dif j' hlt' hjD' ⟨_, hp'.1⟩)] at r'
      exact h.pi j j' ao1 ao2 bk C1 C2 hjD hjD' hlt hlt' hp hp' r r'
end
end Go.Proofs.YthlphddehdjfjaaGreatDoor
