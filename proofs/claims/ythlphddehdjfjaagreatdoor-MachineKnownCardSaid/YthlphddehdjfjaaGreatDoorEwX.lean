/- A reading of closed calls that the kernel can run: regions that draw their order: acts, steps. -/
import Derived.Test.YthlphddehdjfjaaGreatDoorEwW
import Derived.OrdersIn
namespace Go.Proofs.YthlphddehdjfjaaGreatDoor
open Go.RowKit
set_option linter.unusedVariables false
set_option linter.unusedSimpArgs false
set_option linter.unusedSectionVars false

noncomputable def ovl (sel : Nat → Bool) (h : Tr AO) (pe : List Pd) : Tr AO := List.rec (motive := fun _ => Tr AO) h (fun q _ ih => Bool.rec (motive := fun _ => Tr AO) ih ((ih.set q.2.1 q.2.2).fc fun t => t) (sel q.1)) pe
section
variable {P : Program} {G nt : Nat} {cal : Cal} {yld : Yld} {T : Tr Nat} {ops : Array Oper} {S : Nat → St} {E : Nat → List Pd} {K : Nat → Kd} {V : Nat → AV}
  {ρ0 ρ ρ' : Rn} {w0 w w' : World} {D : Nat → Prop} {κ : Nat} {a : Act}
theorem Run.al1 (hr : Run P G cal yld nt T ops S E K V) {j : Nat} (hj : j < ops.size) {ao : AO} (hk : K j = .n ao) : (S (j + 1)).nx = (S j).nx + 1 := by
  cases hr.stp j _ (at_op hj) with
  | z _ _ _ _ _ hk' => rw [hk] at hk'; cases hk'
  | pv _ _ _ _ _ hk' => rw [hk] at hk'; cases hk'
  | rd _ _ _ _ _ _ _ _ hk' => rw [hk] at hk'; cases hk'
  | al _ _ _ _ _ _ hn' _ _ => exact hn'
  | ac _ _ _ _ _ _ hk' => rw [hk] at hk'; cases hk'
theorem ovl_ok (hr : Run P G cal yld nt T ops S E K V) (h : HInv G T ops S K ρ0 w0 D ρ κ w) (sel : Nat → Bool) {m : Nat} (hm : (S κ).nx ≤ m) : ∀ (l : List Pd), (∀ q ∈ l, q.1 < ops.size ∧ (S (q.1 + 1)).nx ≤ m ∧ Pn T K κ q.1 q.2.2 ∧ q.2.1 = (S q.1).nx ∧ (sel q.1 = true → D q.1)) →
    l.Pairwise (fun q q' => q'.1 < q.1) → Lay G (rst ρ m) (ovl sel (S κ).h l).get m w ∧ ∀ b, Im (rst ρ m) (ovl sel (S κ).h l).get b → Im (rst ρ (S κ).nx) (S κ).h.get b ∨ ∃ j ao C, (∃ q ∈ l, q.1 = j) ∧ D j ∧ j < ops.size ∧ Pn T K κ j ao ∧ sel j = true ∧ ρ (S j).nx = some (b, C)
  | [], _, _ => ⟨h.la.ext (rst_mono (.refl _) hm) (fun i hi => rst_top hi), fun b hb => .inl (Im.back h.la (rst_mono (.refl _) hm) hb)⟩
  | q :: l, hq, hp => by
    cases hp with
    | cons p1 p2 =>
      obtain ⟨ih1, ih2⟩ := ovl_ok hr h sel hm l (fun q' hq' => hq q' (.tail _ hq')) p2
      have wide : ∀ b, (Im (rst ρ (S κ).nx) (S κ).h.get b ∨ ∃ j ao C, (∃ q ∈ l, q.1 = j) ∧ D j ∧ j < ops.size ∧ Pn T K κ j ao ∧ sel j = true ∧ ρ (S j).nx = some (b, C)) → Im (rst ρ (S κ).nx) (S κ).h.get b ∨ ∃ j ao C, (∃ q' ∈ q :: l, q'.1 = j) ∧ D j ∧ j < ops.size ∧ Pn T K κ j ao ∧ sel j = true ∧ ρ (S j).nx = some (b, C) :=
        fun b => Or.imp_right fun ⟨j, ao, C, ⟨q', hq', e⟩, r⟩ => ⟨j, ao, C, ⟨q', .tail _ hq', e⟩, r⟩
      have e : ovl sel (S κ).h (q :: l) = Bool.rec (motive := fun _ => Tr AO) (ovl sel (S κ).h l) (((ovl sel (S κ).h l).set q.2.1 q.2.2).fc fun t => t) (sel q.1) := rfl
      rw [e]
      cases hs : sel q.1 with
      | false => exact ⟨ih1, fun b hb => wide b (ih2 b hb)⟩
      | true =>
        show Lay G (rst ρ m) (Tr.get (((ovl sel (S κ).h l).set q.2.1 q.2.2).fc fun t => t)) m w ∧ ∀ b, Im (rst ρ m) (Tr.get (((ovl sel (S κ).h l).set q.2.1 q.2.2).fc fun t => t)) b → _
        rw [Tr.fc_eq, hup_set]
        obtain ⟨a1, a2, a3, a4, a5⟩ := hq q (.head _)
        obtain ⟨bk, C, x, e1, e2, e3, e4, e5⟩ := h.pe q.1 q.2.2 (a5 hs) a1 a3
        have hal := hr.al1 a1 a3.1
        have hrm : rst ρ m q.2.1 = some (bk, C) := by rw [rst_at (by omega), a4]; exact e1
        refine ⟨ih1.add hrm e2 (e3.mono (rst_mono (.refl _) a2)) fun hb => ?_, fun b hb => ?_⟩
        · rcases ih2 bk hb with hb | ⟨j, ao, C', ⟨q', hq', rfl⟩, c1, c2, c3, c4, c5⟩
          · exact e5 hb
          · have := h.pi q.1 q'.1 q.2.2 ao bk C C' (a5 hs) c1 a1 c2 a3 c3 e1 c5
            have := p1 q' hq'
            omega
        · obtain ⟨i, o, C', f1, f2⟩ := hb
          unfold hup at f1
          split at f1
          · rename_i hi
            subst hi
            rw [hrm] at f2; cases f2
            exact .inr ⟨q.1, q.2.2, C, ⟨q, .head _, rfl⟩, a5 hs, a1, a3, hs, e1⟩
          · exact wide b (ih2 b ⟨i, o, C', f1, f2⟩)
theorem HInv.act (hr : Run P G cal yld nt T ops S E K V) (tx : Tx T ops) (h : HInv G T ops S K ρ0 w0 D ρ κ w) {i : Nat} (hi : i < ops.size) (hD : ¬ D i) (hb : ∀ j, (bfA T i).testBit j = true → D j) (hk : K i = .c (S (i + 1)).h) (hκ : κ ≤ i) (hprev : ∀ c hh, K c = .c hh → c < i → D c) {A : Tr AO} {v : Value} {ρ1 : Rn}
    (hA : ∀ b, Im (rst ρ (S i).nx) A.get b → Im (rst ρ (S κ).nx) (S κ).h.get b ∨ ∃ j ao C, D j ∧ j < ops.size ∧ Pn T K κ j ao ∧ (bfA T i).testBit j = true ∧ ρ (S j).nx = some (b, C))
    (fin : Fin' G (rst ρ (S i).nx) A.get (S i).nx w ρ1 (V i) (S (i + 1)).h.get (S (i + 1)).nx v w') :
    ∃ ρ', ρ.le ρ' ∧ rst ρ' (S (i + 1)).nx = ρ1 ∧ HInv G T ops S K ρ0 w0 (D1 D i) ρ' (i + 1) w' := by
  have h0 : (S 0).nx ≤ (S i).nx := hr.nx (Nat.zero_le _) (by omega)
  have hle : ρ.le (fun k => if (S i).nx ≤ k ∧ k < (S (i + 1)).nx then ρ1 k else ρ k) := fun k x e => by
    show (if (S i).nx ≤ k ∧ k < (S (i + 1)).nx then ρ1 k else ρ k) = some x
    split
    · rename_i hc
      rw [h.nid hr hi hD hc.1 hc.2] at e; cases e
    · exact e
  have hrst : rst (fun k => if (S i).nx ≤ k ∧ k < (S (i + 1)).nx then ρ1 k else ρ k) (S (i + 1)).nx = ρ1 := funext fun k => by
    by_cases h1 : k < (S (i + 1)).nx
    · rw [rst_at h1]
      show (if (S i).nx ≤ k ∧ k < (S (i + 1)).nx then ρ1 k else ρ k) = ρ1 k
      split
      · rfl
      · rename_i hc
        have h2 : k < (S i).nx := by omega
        rw [fin.n.fr k h2, rst_at h2]
    · rw [rst_top (by omega), fin.l.top k (by omega)]
  have hAw : ∀ b, b < w0.heap.size → Im (rst ρ (S i).nx) A.get b → Im ρ0 (S 0).h.get b := fun b hlt hb => by
    rcases hA b hb with hb | ⟨j, ao, C, c1, c2, c3, c4, c5⟩
    · exact h.im b hlt hb
    · obtain ⟨bk, C', x, e1, e2, e3, e4, e5⟩ := h.pe j ao c1 c2 c3
      rw [c5] at e1; cases e1
      omega
  have old : ∀ {j ao}, D1 D i j → j < ops.size → Pn T K (i + 1) j ao → D j ∧ Pn T K κ j ao := fun {j ao} hj hlt hp => by
    have hji : j ≠ i := fun e => by subst e; have := hp.1; rw [hk] at this; cases this
    exact ⟨hj.resolve_right hji, hp.1, fun c hh hc h1 h2 => hp.2 c hh hc h1 (by omega)⟩
  have free : ∀ {j ao bk C}, D1 D i j → j < ops.size → Pn T K (i + 1) j ao → ρ (S j).nx = some (bk, C) → ¬ Im (rst ρ (S κ).nx) (S κ).h.get bk → ¬ Im (rst ρ (S i).nx) A.get bk := fun {j ao bk C} hj hlt hp r hn hbk => by
    obtain ⟨hjD, hpκ⟩ := old hj hlt hp
    rcases hA bk hbk with hb' | ⟨j', ao', C', c1, c2, c3, c4, c5⟩
    · exact hn hb'
    · have := h.pi j j' ao ao' bk C C' hjD c1 hlt c2 hpκ c3 r c5
      subst this
      have hlt' := tx.lt i hi j c4
      have := hp.2 i _ hk hlt' (Nat.lt_succ_self i)
      rw [c4] at this; cases this
  refine ⟨_, hle, hrst, fun k hk' hn' => ?_, h.le.trans hle, fun k hk' => ?_, h.kp.trans' fin.n.kp (fun _ _ s => s) hAw, by omega, fun c hh hc hlt => ?_, ?_, fun b hlt hb' => ?_, fun j ao hj hlt hp => ?_, fun j j' ao1 ao2 bk C1 C2 hj hj' hlt hlt' hp hp' r r' => ?_⟩
  · by_cases hc : (S i).nx ≤ k ∧ k < (S (i + 1)).nx
    · exact ⟨i, .inr rfl, hi, hc.1, hc.2⟩
    · have hn2 : ρ k ≠ none := by
        have e : (if (S i).nx ≤ k ∧ k < (S (i + 1)).nx then ρ1 k else ρ k) = ρ k := if_neg hc
        rw [← e]; exact hn'
      obtain ⟨j, a1, a2⟩ := h.dm k hk' hn2
      exact ⟨j, .inl a1, a2⟩
  · show (if (S i).nx ≤ k ∧ k < (S (i + 1)).nx then ρ1 k else ρ k) = ρ0 k
    rw [if_neg (by omega)]; exact h.fr k hk'
  · constructor
    · rintro (hd | rfl)
      · have := (h.ka c hh hc hlt).1 hd; omega
      · exact Nat.lt_succ_self _
    · intro hc'
      by_cases e : c = i
      · exact .inr e
      · exact .inl (hprev c hh hc (by omega))
  · rw [hrst]; exact fin.l
  · rw [hrst] at hb'
    exact hAw b hlt (fin.n.im b (Nat.lt_of_lt_of_le hlt h.kp.size) hb')
  · obtain ⟨hjD, hpκ⟩ := old hj hlt hp
    obtain ⟨bk, C, x, e1, e2, e3, e4, e5⟩ := h.pe j ao hjD hlt hpκ
    have hf := free hj hlt hp e1 e5
    refine ⟨bk, C, x, hle _ _ e1, block_keep e2 fin.n.kp hf, e3.mono (rst_mono hle (Nat.le_refl _)), e4, ?_⟩
    rw [hrst]
    exact fun hb' => hf (fin.n.im bk (lt_block e2) hb')
  · obtain ⟨hjD, hpκ⟩ := old hj hlt hp
    obtain ⟨hjD', hpκ'⟩ := old hj' hlt' hp'
    obtain ⟨b1, c1, x1, e1, _⟩ := h.pe j ao1 hjD hlt hpκ
    obtain ⟨b2, c2, x2, e2, _⟩ := h.pe j' ao2 hjD' hlt' hpκ'
    have e1' : some (b1, c1) = some (bk, C1) := (hle _ _ e1).symm.trans r
    have e2' : some (b2, c2) = some (bk, C2) := (hle _ _ e2).symm.trans r'
    cases e1'
    cases e2'
    exact h.pi j j' ao1 ao2 bk C1 C2 hjD hjD' hlt hlt' hpκ hpκ' e1 e2
theorem put_defers (a : Act) (d : Option Tmp) (v : Value) : (a.put d v).defers = a.defers := by cases d <;> rfl
theorem step_ok (hr : Run P G cal yld nt T ops S E K V) (tx : Tx T ops) (hcal : SCal P G cal) (hyld : SYld P G yld) (hE : E 0 = []) (hg0 : ∀ g, g < G → g < (S 0).nx ∧ ρ0 g = some (g, 0))
    (hC : ∀ c c' h h', K c = .c h → K c' = .c h' → c < c' → c' < ops.size → (bfA T c').testBit c = true)
    (hW : ∀ i f v, i < ops.size → K i = .r f v → ∀ κ, κ ≤ ops.size → (∀ c h, K c = .c h → c < ops.size → (bfA T i).testBit c = true → c < κ) → (∀ c h, K c = .c h → c < κ → (bfA T c).testBit i = false) → f (S κ).h = some v)
    (t : TInv nt ops S V D ρ a) (h : HInv G T ops S K ρ0 w0 D ρ κ w) {i : Nat} {o : Oper} (ho : ops[i]? = some o) (hD : ¬ D i) (hb : ∀ j, (bfA T i).testBit j = true → D j)
    (hcl : ∀ c, D c → c < ops.size → ∀ j, (bfA T c).testBit j = true → D j) {rd : Option Nat} {Q : Exit → Act → World → Prop} {next : Act → World → Prop}
    (hn : ∀ ρ' κ' a' w', TInv nt ops S V (D1 D i) ρ' a' → HInv G T ops S K ρ0 w0 (D1 D i) ρ' κ' w' → a'.defers = a.defers → next a' w') : wpOpIn (Wr rd) 0 P ops Q i next a w := by
  have hi := op_lt ho
  have h0 : (S 0).nx ≤ (S i).nx := hr.nx (Nat.zero_le _) (by omega)
  have glb : ∀ m, (S 0).nx ≤ m → ∀ g, g < G → rst ρ m g = some (g, 0) := fun m hm g hg => by
    obtain ⟨g1, g2⟩ := hg0 g hg
    rw [rst_at (by omega)]; exact h.le _ _ g2
  have ok : ∀ {out : Out} {m : Nat}, opOut P G cal yld (rstE o (S i).tm) o = some out → (S i).nx ≤ m → OutOk P G a o (rst ρ m) out := fun ho' hm => opOut_ok (t.tr hr tx ho hb hD hcl hm) (glb _ (by omega)) hcal hyld ho'
  unfold wpOpIn
  simp only [ho]
  cases hr.stp i o ho with
  | z hg hv hh hnn he hk =>
    rw [if_neg (by rw [t.wn hr tx ho hb hg]; decide)]
    refine ⟨about_wide rd, hn ρ κ _ w (t.put hr tx (.refl _) ho ?_) (h.grow (fun _ e => by rw [hk] at e; cases e) (fun _ e => by rw [hk] at e; cases e)) (put_defers _ _ _)⟩
    rw [hv]; exact undef_R _
  | pv hg ho' hh hnn he hk =>
    rw [if_pos (t.wn hr tx ho hb hg)]
    obtain ⟨z, r, hz⟩ := ok ho' (Nat.le_refl _)
    refine wpIn_ends rd (opOut_nodef ho') (.inl (hz w)) (hn ρ κ _ w (t.put hr tx (.refl _) ho ?_) (h.grow (fun _ e => by rw [hk] at e; cases e) (fun _ e => by rw [hk] at e; cases e)) (put_defers _ _ _))
    rw [hnn]; exact r
  | rd f hg ho' hv hbd hh hnn he hk =>
    rw [if_pos (t.wn hr tx ho hb hg)]
    have hf : f (S κ).h = some (V i) := hW i f (V i) hi hk κ h.kn (fun c hh hc hlt hbit => (h.ka c hh hc hlt).1 (hb c hbit)) (fun c hh hc hlt => by
      have hcs : c < ops.size := Nat.lt_of_lt_of_le hlt h.kn
      cases hbit : (bfA T c).testBit i with
      | false => rfl
      | true => exact absurd (hcl c ((h.ka c hh hc hcs).2 hlt) hcs i hbit) hD)
    have hm1 : (S i).nx ≤ max (S i).nx (S κ).nx := Nat.le_max_left _ _
    have hm2 : (S κ).nx ≤ max (S i).nx (S κ).nx := Nat.le_max_right _ _
    obtain ⟨z, r, hz⟩ := ok ho' hm1 _ _ hf _ w (h.la.ext (rst_mono (.refl _) hm2) (fun i hi => rst_top hi))
    refine wpIn_ends rd (opOut_nodef ho') (.inl hz) (hn ρ κ _ w (t.put hr tx (.refl _) ho ?_) (h.grow (fun _ e => by rw [hk] at e; cases e) (fun _ e => by rw [hk] at e; cases e)) (put_defers _ _ _))
    rw [hnn]; exact (r.bd hbd).mono (rst_mono (rst_le _ _) (Nat.le_refl _))
  | al ao f hg ho' hv hh hnn he hk =>
    rw [if_pos (t.wn hr tx ho hb hg)]
    obtain ⟨x, C, z, k1, k2, k3⟩ := ok ho' (Nat.le_refl _) w (S i).nx (rst_top (Nat.le_refl _))
    have hle2 : (Rn.up (rst ρ (S i).nx) (S i).nx (w.heap.size, C)).le (rst (ρ.up (S i).nx (w.heap.size, C)) (S (i + 1)).nx) := fun k y e => by
      unfold Rn.up at e
      split at e
      · rename_i hk'
        subst hk'
        rw [rst_at (by omega)]
        unfold Rn.up
        rw [if_pos rfl]; exact e
      · rename_i hk'
        unfold rst at e
        split at e
        · rw [rst_at (by omega)]
          unfold Rn.up
          rw [if_neg hk']; exact e
        · cases e
    have hno : ρ (S i).nx = none := h.nid hr hi hD (Nat.le_refl _) (by omega)
    refine wpIn_ends rd (opOut_nodef ho') (.inl k3) (hn _ κ _ _ (t.put hr tx (Rn.le_up _ hno) ho ?_) (h.alloc hr hi hD hk hnn (k1.mono hle2)) (put_defers _ _ _))
    rw [hv]; exact k2.mono hle2
  | ac f hg ho' hv hnn he hk =>
    rw [if_pos (t.wn hr tx ho hb hg)]
    have hprev : ∀ c hh, K c = .c hh → c < i → D c := fun c hh hc hlt => hb c (hC c i hh _ hc hk hlt hi)
    have hκ : κ ≤ i := Nat.le_of_not_lt fun hlt => hD ((h.ka i _ hk hi).2 hlt)
    have hseg : (S i).h = (S κ).h := hr.seg (by omega) hκ (fun c hh hc hle => Nat.le_of_not_lt fun hlt => by
      have := (h.ka c hh hc (by omega)).1 (hprev c hh hc hlt); omega)
    obtain ⟨p1, p2⟩ := hr.pend hE (i := i) (by omega)
    obtain ⟨l1, l2⟩ := ovl_ok hr h (fun j => (bfA T i).testBit j) (hr.nx hκ (by omega)) (E i) (fun q hq => by
      obtain ⟨b1, b2, b3, b4⟩ := p1 q hq
      exact ⟨by omega, hr.nx (by omega) (by omega), ⟨b2, fun c hh hc h1 h2 => b4 c hh hc h1 (by omega)⟩, b3, fun hbit => hb _ hbit⟩) p2
    have eA : ovl (fun j => (bfA T i).testBit j) (S κ).h (E i) = flsA T i (S i).h (E i) := by rw [hseg]; rfl
    rw [eA] at l1 l2
    refine ok ho' (Nat.le_refl _) _ _ _ _ _ hv w l1 rd next Q ?_
    intro ρ1 v w1 fin
    obtain ⟨ρ2, m1, m2, m3⟩ := h.act hr tx hi hD hb hk hκ hprev (fun b hb' => (l2 b hb').imp_right fun ⟨j, ao, C, _, c1, c2, c3, c4, c5⟩ => ⟨j, ao, C, c1, c2, c3, c4, c5⟩) fin
    refine hn ρ2 (i + 1) _ w1 (t.put hr tx m1 ho ?_) m3 (put_defers _ _ _)
    rw [m2]; exact fin.r
end
end Go.Proofs.YthlphddehdjfjaaGreatDoor
