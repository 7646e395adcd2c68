/- A reading of closed calls that the kernel can run: regions that draw their order are read rightly. -/
import Derived.Test.YthlphddehdjfjaaGreatDoorEwX
namespace Go.Proofs.YthlphddehdjfjaaGreatDoor
open Go.RowKit
set_option linter.unusedVariables false
set_option linter.unusedSimpArgs false
set_option linter.unusedSectionVars false

theorem cnt_lt {p q : Nat → Bool} : ∀ {l : List Nat}, (∀ x, p x = true → q x = true) → (∃ x ∈ l, q x = true ∧ p x = false) → l.countP p < l.countP q
  | [], _, ⟨x, hx, _⟩ => by cases hx
  | y :: l, hpq, ⟨x, hx, h1, h2⟩ => by
    have hm : l.countP p ≤ l.countP q := List.countP_mono_left fun x _ h => hpq x h
    simp only [List.countP_cons]
    cases hx with
    | head => rw [h1, h2]; simp; omega
    | tail _ hx =>
      have ih := cnt_lt hpq ⟨x, hx, h1, h2⟩
      cases hp : p y with
      | true => rw [hpq y hp]; simp; omega
      | false => simp; split <;> omega
abbrev LD (listed : Array Bool) : Nat → Prop := fun k => listed.getD k false = true
theorem ld_none (n k : Nat) : ¬ LD (Array.replicate n false) k := fun h => by
  unfold LD at h
  rw [Array.getD_eq_getD_getElem?, Array.getElem?_replicate] at h
  split at h <;> cases h
section
variable {P : Program} {G nt km : Nat} {cal : Cal} {yld : Yld} {T : Tr Nat} {ops : Array Oper} {S : Nat → St} {E : Nat → List Pd} {K : Nat → Kd} {V : Nat → AV}
  {ρ0 ρ : Rn} {w0 w : World} {κ : Nat} {a a0 : Act} {D : Nat → Prop}
theorem all_done (tx : Tx T ops) {listed : Array Bool} (hs : listed.size = ops.size) (h : Region.ready .any ops listed = []) : ∀ k, k < ops.size → LD listed k := by
  intro k hk
  by_cases hd : LD listed k
  · exact hd
  · obtain ⟨m, ⟨h1, h2⟩, h3⟩ := least_of (p := fun k => k < ops.size ∧ ¬ LD listed k) ⟨k, hk, hd⟩
    have : m ∈ Region.ready .any ops listed := by
      rw [mem_ready]
      refine ⟨?_, ops[m], at_op h1, fun e he hb => ?_⟩
      · have : listed.getD m false = false := by simpa [LD] using h2
        rw [Array.getD_eq_getD_getElem?] at this ⊢
        have hlt : m < listed.size := by omega
        rw [Array.getElem?_eq_getElem hlt] at this ⊢
        exact this
      · have hlt := tx.acy m _ (at_op h1) e (by simpa using he) hb
        by_cases hd' : LD listed e.on
        · exact hd'
        · have := h3 e.on ⟨by omega, hd'⟩
          omega
    rw [h] at this
    cases this
theorem end_ok (hr : Run P G cal yld nt T ops S E K V) (tx : Tx T ops) (hE : E 0 = []) (t : TInv nt ops S V D ρ a) (h : HInv G T ops S K ρ0 w0 D ρ κ w) (hD : ∀ k, k < ops.size → D k) (hk : KM km (S 0).tm) (hd : DR ρ0 (S 0).ms a.defers) :
    SR G nt km ρ ⟨(S ops.size).tm, allP (S ops.size).h (E ops.size), (S ops.size).nx, (S ops.size).ms⟩ a w ∧ Nx ρ0 (S 0).h.get (S 0).nx w0 ρ (allP (S ops.size).h (E ops.size)).get (S ops.size).nx w := by
  have hrs : rst ρ (S ops.size).nx = ρ := funext fun k => by
    by_cases hk : k < (S ops.size).nx
    · exact rst_at hk
    · rw [rst_top (by omega)]
      cases hx : ρ k with
      | none => rfl
      | some x =>
        obtain ⟨j, _, a2, a3, a4⟩ := h.dm k (Nat.le_trans (hr.nx (Nat.zero_le _) (Nat.le_refl _)) (by omega)) (by rw [hx]; simp)
        have := hr.nx (i := j + 1) (j := ops.size) (by omega) (Nat.le_refl _)
        omega
  have hseg : (S ops.size).h = (S κ).h := hr.seg (Nat.le_refl _) h.kn (fun c hh hc hle => Nat.le_of_not_lt fun hlt => by
    have := (h.ka c hh hc hlt).1 (hD c hlt); omega)
  obtain ⟨p1, p2⟩ := hr.pend hE (i := ops.size) (Nat.le_refl _)
  obtain ⟨l1, l2⟩ := ovl_ok hr h (fun _ => true) (hr.nx h.kn (Nat.le_refl _)) (E ops.size) (fun q hq => by
    obtain ⟨b1, b2, b3, b4⟩ := p1 q hq
    exact ⟨b1, hr.nx (by omega) (Nat.le_refl _), ⟨b2, fun c hh hc h1 h2 => b4 c hh hc h1 (Nat.lt_of_lt_of_le h2 h.kn)⟩, b3, fun _ => hD _ b1⟩) p2
  have eA : ovl (fun _ => true) (S κ).h (E ops.size) = allP (S ops.size).h (E ops.size) := by rw [hseg]; rfl
  rw [eA, hrs] at l1 l2
  refine ⟨⟨⟨t.sz, fun k c hc => ?_⟩, fun k hb => ?_, l1, ?_⟩, ⟨h.le, h.kp, fun b hlt hb => ?_, h.fr, hr.nx (Nat.zero_le _) (Nat.le_refl _)⟩⟩
  · by_cases hd : ∃ (j : Nat) (q : Oper), ops[j]? = some q ∧ q.dst = some k
    · obtain ⟨j, q, hq, hqd⟩ := hd
      have hc' : (S ops.size).tm.get k = some c := hc
      rw [(hr.tmD tx hq hqd (op_lt hq) (Nat.le_refl _)).1] at hc'
      cases hc'
      obtain ⟨z, e1, e2⟩ := t.tD j q k (hD j (op_lt hq)) hq hqd
      exact ⟨z, e1, e2.mono (rst_le _ _)⟩
    · have hd' : ∀ (j : Nat) (q : Oper), ops[j]? = some q → q.dst ≠ some k := fun j q hq e => hd ⟨j, q, hq, e⟩
      have hc' : (S ops.size).tm.get k = some c := hc
      rw [hr.tm0 hd' (Nat.le_refl _)] at hc'
      obtain ⟨z, e1, e2⟩ := t.t0 k c (fun j q hq e => (hd' j q hq e).elim) hc'
      exact ⟨z, e1, e2.mono (rst_le _ _)⟩
  · show (S ops.size).tm.t.get k = none
    rw [hr.tt (Nat.le_refl _)]
    exact hk k hb
  · show DR ρ (S ops.size).ms a.defers
    rw [hr.ms0 (Nat.le_refl _)]
    exact hd.mono h.le
  · rcases l2 b hb with hb | ⟨j, ao, C, _, c1, c2, c3, _, c5⟩
    · exact h.im b hlt hb
    · obtain ⟨bk, C', x, e1, e2, e3, e4, e5⟩ := h.pe j ao c1 c2 c3
      rw [c5] at e1; cases e1
      omega
theorem any_ok (hr : Run P G cal yld nt T ops S E K V) (tx : Tx T ops) (hcal : SCal P G cal) (hyld : SYld P G yld) (hE : E 0 = []) (hg0 : ∀ g, g < G → g < (S 0).nx ∧ ρ0 g = some (g, 0))
    (hC : ∀ c c' h h', K c = .c h → K c' = .c h' → c < c' → c' < ops.size → (bfA T c').testBit c = true)
    (hW : ∀ i f v, i < ops.size → K i = .r f v → ∀ κ, κ ≤ ops.size → (∀ c h, K c = .c h → c < ops.size → (bfA T i).testBit c = true → c < κ) → (∀ c h, K c = .c h → c < κ → (bfA T c).testBit i = false) → f (S κ).h = some v)
    {rd : Option Nat} {Q : Exit → Act → World → Prop} (hQ : ∀ D ρ κ a w, TInv nt ops S V D ρ a → HInv G T ops S K ρ0 w0 D ρ κ w → (∀ k, k < ops.size → D k) → a.defers = a0.defers → Q .normal a w) :
    ∀ (fuel : Nat) (listed : Array Bool) (ρ : Rn) (κ : Nat) (a : Act) (w : World), listed.size = ops.size → (List.range ops.size).countP (fun k => !listed.getD k false) ≤ fuel → TInv nt ops S V (LD listed) ρ a → HInv G T ops S K ρ0 w0 (LD listed) ρ κ w →
      (∀ c, LD listed c → c < ops.size → ∀ j, (bfA T c).testBit j = true → LD listed j) → a.defers = a0.defers → wpAnyIn (Wr rd) 0 P .any ops Q fuel listed a w
  | 0, listed, ρ, κ, a, w, hs, hc, t, h, hcl, hd => by
    have hall : ∀ k, k < ops.size → LD listed k := fun k hk => by
      have h1 := Nat.le_zero.1 hc
      rw [List.countP_eq_zero] at h1
      have := h1 k (List.mem_range.2 hk)
      simpa [LD] using this
    refine ⟨?_, hQ _ ρ κ a w t h hall hd⟩
    rw [List.eq_nil_iff_forall_not_mem]
    intro j hj
    rw [mem_ready] at hj
    obtain ⟨h1, o, ho, _⟩ := hj
    have h2 := hall j (op_lt ho)
    have hlt : j < listed.size := by rw [hs]; exact op_lt ho
    unfold LD at h2
    rw [Array.getD_eq_getD_getElem?, Array.getElem?_eq_getElem hlt] at h1 h2
    simp at h1 h2
    rw [h1] at h2; cases h2
  | fuel + 1, listed, ρ, κ, a, w, hs, hc, t, h, hcl, hd => by
    refine ⟨fun hre => hQ _ ρ κ a w t h (all_done tx hs hre) hd, fun i hi => ?_⟩
    rw [mem_ready] at hi
    obtain ⟨h1, o, ho, hpre⟩ := hi
    have hil := op_lt ho
    have hlt : i < listed.size := by rw [hs]; exact hil
    have hnot : ¬ LD listed i := fun h2 => by
      unfold LD at h2
      rw [Array.getD_eq_getD_getElem?, Array.getElem?_eq_getElem hlt] at h1 h2
      simp at h1 h2
      rw [h1] at h2; cases h2
    have hb : ∀ j, (bfA T i).testBit j = true → LD listed j := fun j hj => by
      obtain ⟨e, e1, e2, e3⟩ := tx.bef i o ho j hj
      have hon := hpre e (by simpa using e1) e2
      rcases e3 with rfl | e3
      · exact hon
      · exact hcl e.on hon (by have := tx.acy i o ho e e1 e2; omega) j e3
    have hset : D1 (LD listed) i = LD (listed.setIfInBounds i true) := funext fun k => propext (by
      by_cases hk : i = k
      · subst hk
        exact ⟨fun _ => by simp [LD, hlt], fun _ => .inr rfl⟩
      · unfold LD
        rw [getD_set_ne false hk]
        exact ⟨fun h => h.resolve_right (fun e => hk e.symm), fun h => .inl h⟩)
    refine step_ok hr tx hcal hyld hE hg0 hC hW t h ho hnot hb hcl fun ρ' κ' a' w' t' h' hd' => ?_
    rw [hset] at t' h'
    refine any_ok hr tx hcal hyld hE hg0 hC hW hQ fuel (listed.setIfInBounds i true) ρ' κ' a' w' (by rw [Array.size_setIfInBounds]; exact hs) ?_ t' h' ?_ (hd'.trans hd)
    · have : (List.range ops.size).countP (fun k => !(listed.setIfInBounds i true).getD k false) < (List.range ops.size).countP (fun k => !listed.getD k false) := by
        refine cnt_lt (fun x hx => ?_) ⟨i, List.mem_range.2 hil, ?_, ?_⟩
        · by_cases hk : i = x
          · subst hk; simp [hlt] at hx
          · rw [getD_set_ne false hk] at hx; exact hx
        · have : listed.getD i false = false := by
            cases hv : listed.getD i false with
            | false => rfl
            | true => exact absurd hv hnot
          rw [this]; rfl
        · simp [hlt]
      omega
    · intro c hc' hcs j hj
      rw [← hset] at hc' ⊢
      rcases hc' with hc' | rfl
      · exact .inl (hcl c hc' hcs j hj)
      · exact .inl (hb j hj)
/-- REGIONS THAT DRAW THEIR ORDER ARE READ RIGHTLY. -/
theorem drawn_ok (hm : P.follows .mixedOrders = true) : Drawn P G := by
  intro cal yld nt km ops st st' hcal hyld he ρ a w s rd id Q hn
  unfold evD at he
  rw [Tr.fc_eq] at he
  obtain ⟨htx, he⟩ := iff_eq he
  obtain ⟨⟨sf, ef, ks⟩, h1, he⟩ := ob_eq he
  obtain ⟨hchk, he⟩ := iff_eq he
  cases he
  have tx := tx_of rfl htx
  obtain ⟨S, E, K, V, b1, b2, b3, b4, b5, b6, b7⟩ := evLD_run _ _ h1
  have hsz : ops.toList.length = ops.size := by simp
  rw [hsz] at b3 b4 b5 b6
  have at' : ∀ (k : Nat) (o : Oper), ops[k]? = some o → ops.toList[k]? = some o := fun k o h => by simpa using h
  have hr : Run P G cal yld nt (bfT ops.toList 0 .e) ops S E K V := ⟨fun k o h => (b7 k o (at' k o h)).1, fun k o h => (b7 k o (at' k o h)).2.1, fun k o h => by have := (b7 k o (at' k o h)).2.2; rwa [Nat.zero_add] at this⟩
  have hrst : rst ρ st.nx = ρ := funext fun k => by
    by_cases hk : k < st.nx
    · exact rst_at hk
    · rw [rst_top (by omega), s.la.top k (by omega)]
  have hw : Keeps (fun _ => False) w { w with drawn := w.drawn + 1 } := ⟨rfl, rfl, rfl, Nat.le_refl _, fun _ _ _ => rfl⟩
  have hg0 : ∀ g, g < G → g < (S 0).nx ∧ ρ g = some (g, 0) := fun g hg => by
    have := s.la.glb g hg
    refine ⟨?_, this⟩
    rw [b1]
    by_cases hlt : g < st.nx
    · exact hlt
    · rw [s.la.top g (by omega)] at this; cases this
  refine wpIn_region_any hm (any_ok (a0 := a) (ρ0 := ρ) (w0 := { w with drawn := w.drawn + 1 }) hr tx hcal hyld b2 hg0 ?_ ?_ ?_ ops.size _ ρ 0 a _ (by simp) ?_ ?_ ?_ ?_ rfl)
  · intro c c' h h' hc hc' hlt hs
    have k1 := chkA_at ks 0 hchk c (K c) (b6 c (by omega))
    rw [hc, Nat.zero_add] at k1
    have k2 := (actsA_mem ks 0).2 c' h' (by rw [b6 c' hs, hc'])
    rw [Nat.zero_add] at k2
    have := List.all_eq_true.1 k1 _ k2
    simp only [Bool.or_eq_true, decide_eq_true_eq] at this
    exact this.resolve_left (by omega)
  · intro i f v hi hk κ hκ g1 g2
    have k1 := chkA_at ks 0 hchk i (K i) (b6 i hi)
    rw [hk, Nat.zero_add] at k1
    have act : ∀ q ∈ actsA ks 0, K q.1 = .c q.2 ∧ q.1 < ops.size := fun q hq => by
      obtain ⟨k, e1, e2⟩ := (actsA_mem ks 0).1 q hq
      rw [Nat.zero_add] at e1
      subst e1
      have hlt : q.1 < ops.size := by rw [← b5]; exact (List.getElem?_eq_some_iff.1 e2).1
      rw [b6 _ hlt] at e2
      exact ⟨by simpa using e2, hlt⟩
    have := winA_ok (κ := κ) k1 (actsA_sort ks 0) (fun q hq hb => g1 q.1 q.2 (act q hq).1 (act q hq).2 hb) (fun q hq hlt => g2 q.1 q.2 (act q hq).1 hlt)
    have e := hpK_run hr ks 0 κ (fun k hk => by rw [Nat.zero_add]; exact b6 k (by omega)) (by omega) (Nat.zero_le _) hκ
    rw [b1] at e
    rw [e] at this
    exact this
  · intro D ρ' κ a' w' t h hD hd
    obtain ⟨e1, e2⟩ := end_ok (km := km) hr tx b2 t h hD (by rw [b1]; exact s.km) (by rw [b1, hd]; exact s.df)
    rw [b3, b4] at e1 e2
    rw [b1] at e2
    have n0 : Nx ρ st.h.get st.nx w ρ st.h.get st.nx { w with drawn := w.drawn + 1 } := .same hw
    exact hn ρ' a' w' e1 (n0.trans e2)
  · refine Nat.le_trans List.countP_le_length ?_
    simp
  · refine ⟨s.tr.1, fun t c _ hc => ?_, fun j o t hj => ?_⟩
    · rw [b1] at hc ⊢
      rw [hrst]
      exact s.tr.2 t c hc
    · exact absurd hj (ld_none _ _)
  · have no : ∀ k, ¬ LD (Array.replicate ops.size false) k := fun k => ld_none _ k
    refine ⟨fun k h1 h2 => ?_, .refl _, fun _ _ => rfl, Keeps.refl _ _, Nat.zero_le _, fun c h hc hs => ⟨fun hd => absurd hd (no _), fun hd => by omega⟩, ?_, fun b _ hb => ?_, fun j ao hj => absurd hj (no _), fun j j' _ _ _ _ _ hj => absurd hj (no _)⟩
    · rw [b1] at h1
      exact absurd (s.la.top k h1) h2
    · rw [b1, hrst]; exact s.la.same hw
    · rw [b1, hrst] at hb; rw [b1]; exact hb
  · intro c hc
    exact absurd hc (ld_none _ _)
end
#print axioms drawn_ok
end Go.Proofs.YthlphddehdjfjaaGreatDoor
