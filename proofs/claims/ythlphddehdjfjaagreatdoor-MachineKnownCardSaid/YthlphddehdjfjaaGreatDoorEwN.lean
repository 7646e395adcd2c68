/- A reading of closed calls that the kernel can run: states, regions in order. -/
import Derived.Test.YthlphddehdjfjaaGreatDoorEwM
namespace Go.Proofs.YthlphddehdjfjaaGreatDoor
open Go.RowKit
set_option linter.unusedVariables false
set_option linter.unusedSimpArgs false
set_option linter.unusedSectionVars false

theorem undef_R (ρ : Rn) : R ρ (.t .nil) (.v undef) := .t .nil
theorem TR.put {ρ : Rn} {tm : En} {nt : Nat} {ts : Array Value} (h : TR ρ tm nt ts) {k : Nat} {c : AV} {v : Value} (hk : k < nt) (hv : R ρ c (.v v)) : TR ρ (tm.put k c) nt (ts.setIfInBounds k v) :=
  ⟨by simp [h.1], fun j c' e => by
    rw [En.get_put] at e
    split at e
    · rename_i hj
      cases e; subst hj
      exact ⟨v, by simp [h.1, hk], hv⟩
    · rename_i hj
      obtain ⟨v', h1, h2⟩ := h.2 j c' e
      exact ⟨v', by rw [Array.getElem?_setIfInBounds_ne (Ne.symm hj)]; exact h1, h2⟩⟩
theorem putA_eq {d : Option Tmp} {nt : Nat} {tm tm' : En} {v : AV} (h : putA d nt tm v = some tm') : (d = none ∧ tm' = tm) ∨ ∃ k, d = some k ∧ k < nt ∧ tm' = tm.put k v := by
  cases d with
  | none => cases h; exact .inl ⟨rfl, rfl⟩
  | some k =>
    obtain ⟨h1, h2⟩ := iff_eq h
    rw [Nat.blt_eq] at h1
    cases h2
    exact .inr ⟨k, rfl, h1, rfl⟩
/-- marks of the calls to be made at the end -/
inductive DR (ρ : Rn) : List Nat → List Deferred → Prop where
  | nil : DR ρ [] []
  | cons {i bk C : Nat} {ms : List Nat} {ds : List Deferred} (h : ρ i = some (bk, C)) (r : DR ρ ms ds) : DR ρ (i :: ms) ({ target := .collected bk, args := #[] } :: ds)
theorem DR.mono {ρ ρ' : Rn} {ms : List Nat} {ds : List Deferred} (h : DR ρ ms ds) (hl : ρ.le ρ') : DR ρ' ms ds := by
  induction h with
  | nil => exact .nil
  | cons h _ ih => exact .cons (hl _ _ h) ih
structure SR (G nt km : Nat) (ρ : Rn) (st : St) (a : Act) (w : World) : Prop where
  tr : TR ρ st.tm nt a.tmps
  km : KM km st.tm
  la : Lay G ρ st.h.get st.nx w
  df : DR ρ st.ms a.defers

section
variable {P : Program} {G nt km : Nat} {ρ ρ' : Rn} {st st' : St} {a : Act} {w w' : World}
theorem SR.put (s : SR G nt km ρ st a w) {d : Option Tmp} {v : AV} {z : Value} {t : En} {h' : Tr AO} {nx' : Nat} (hr : R ρ' v (.v z)) (hl : ρ.le ρ') (la : Lay G ρ' h'.get nx' w') (hp : putA d nt st.tm v = some t) :
    SR G nt km ρ' ⟨t, h', nx', st.ms⟩ (a.put d z) w' := by
  rcases putA_eq hp with ⟨rfl, rfl⟩ | ⟨k, rfl, hk, rfl⟩
  · exact ⟨s.tr.mono hl, s.km, la, s.df.mono hl⟩
  · exact ⟨(s.tr.mono hl).put hk hr, s.km, la, s.df.mono hl⟩
theorem tb_eq (m k : Nat) : tb m k = Nat.testBit m k := by
  show Nat.beq ((m >>> k) &&& 1) 1 = (1 &&& (m >>> k) != 0)
  rw [Nat.and_comm]
  have h : 1 &&& (m >>> k) = (m >>> k) % 2 := by rw [Nat.and_comm, Nat.and_one_is_mod]
  rw [h]
  rcases Nat.mod_two_eq_zero_or_one (m >>> k) with e | e <;> rw [e] <;> rfl
theorem flsL_km {km : Nat} {t : Tr AV} {j : Nat} (hb : Nat.testBit km j = false) (h : t.get j = none) : ∀ l : List (Nat × AV), (flsL l km t).get j = none
  | [] => h
  | q :: l => by
    have ih := flsL_km hb h l
    show Tr.get (Bool.rec (motive := fun _ => Tr AV) (flsL l km t) (((flsL l km t).set q.1 q.2).fc fun t => t) (tb km q.1)) j = none
    cases e : tb km q.1 with
    | false => exact ih
    | true =>
      rw [tb_eq] at e
      show (((flsL l km t).set q.1 q.2).fc fun t => t).get j = none
      rw [Tr.fc_eq, Tr.get_set, if_neg (fun h => by subst h; rw [hb] at e; cases e)]
      exact ih
theorem flsL_get {km : Nat} {t : Tr AV} {j : Nat} {c : AV} (hk : ∀ k, Nat.testBit km k = false → t.get k = none) : ∀ l : List (Nat × AV), (flsL l km t).get j = some c → getE l j t = some c
  | [], h => h
  | q :: l, h => by
    have ih := flsL_get hk l (j := j) (c := c)
    show Bool.rec (motive := fun _ => Option AV) (getE l j t) (some q.2) (Nat.beq q.1 j) = some c
    replace h : Tr.get (Bool.rec (motive := fun _ => Tr AV) (flsL l km t) (((flsL l km t).set q.1 q.2).fc fun t => t) (tb km q.1)) j = some c := h
    cases e : tb km q.1 with
    | false =>
      rw [e] at h
      rw [tb_eq] at e
      cases e2 : Nat.beq q.1 j with
      | true =>
        have e3 := Nat.eq_of_beq_eq_true e2
        subst e3
        rw [flsL_km e (hk _ e)] at h
        cases h
      | false => exact ih h
    | true =>
      rw [e] at h
      rw [tb_eq] at e
      replace h : (((flsL l km t).set q.1 q.2).fc fun t => t).get j = some c := h
      rw [Tr.fc_eq, Tr.get_set] at h
      cases e2 : Nat.beq q.1 j with
      | true =>
        have e3 := Nat.eq_of_beq_eq_true e2
        subst e3
        rw [if_pos rfl] at h
        exact h
      | false =>
        rw [if_neg (fun h => by subst h; simp at e2)] at h
        exact ih h
theorem flsE_eq (km : Nat) (e : En) : flsE km e = ⟨[], flsL e.l km e.t⟩ := by unfold flsE; rw [Tr.fc_eq]
theorem SR.fls (s : SR G nt km ρ st a w) : SR G nt km ρ ⟨flsE km st.tm, st.h, st.nx, st.ms⟩ a w := by
  refine ⟨⟨s.tr.1, fun k c h => s.tr.2 k c ?_⟩, fun k hb => ?_, s.la, s.df⟩
  · rw [flsE_eq] at h
    exact flsL_get (fun k hb => s.km k hb) st.tm.l h
  · show (flsE km st.tm).t.get k = none
    rw [flsE_eq]
    exact flsL_km hb (s.km k hb) st.tm.l
theorem gdA_ok {ops : Array Oper} {tm : En} {ts : Array Value} {j : Nat} {b x : Bool} (h : gdA ops tm j b = some x) (ht : TR ρ tm nt ts) : (yielded ops ts j == some b) = x := by
  unfold gdA at h
  split at h
  · rename_i q hq
    split at h
    · rename_i d hd
      have hy : ∀ v, ts[d]? = some v → yielded ops ts j = (match (some v : Option Value) with | some (.bool b) => some b | _ => none) := fun v hv => by unfold yielded; simp only [hq, hd, Option.bind_some, hv]; rfl
      split at h
      · rename_i z hz
        obtain ⟨v, h1, h2⟩ := ht.2 _ _ hz
        rw [hy v h1]
        cases h2
        cases h
        cases b <;> cases z <;> rfl
      · rename_i hz
        obtain ⟨v, h1, h2⟩ := ht.2 _ _ hz
        rw [hy v h1]
        cases h2
        cases h
        rfl
      · cases h
    · cases h
  · cases h
variable {cal : Cal} {yld : Yld}
theorem opOut_nodef {tm : En} {o : Oper} {out : Out} (h : opOut P G cal yld tm o = some out) : ∀ c, o.op ≠ .defer c := fun c e => by
  unfold opOut at h
  rw [e] at h
  cases h
variable {rd : Option Nat} {next : Act → World → Prop} {Q : Exit → Act → World → Prop}
theorem doO_ok {o : Oper} {out : Out} (s : SR G nt km ρ st a w) (ho : OutOk P G a o ρ out) (hd : ∀ c, o.op ≠ .defer c) (h : doO out nt o.dst st = some st')
    (hn : ∀ ρ' a' w', SR G nt km ρ' st' a' w' → Nx ρ st.h.get st.nx w ρ' st'.h.get st'.nx w' → next a' w') : o.wpIn (Wr rd) 0 P a w next Q := by
  cases out with
  | pv v =>
    obtain ⟨t, h1, h⟩ := ob_eq h
    cases h
    obtain ⟨z, r, hz⟩ := ho
    exact wpIn_ends rd hd (.inl (hz w)) (hn ρ _ _ (s.put r (.refl _) s.la h1) (.refl _ _ _))
  | rd f =>
    obtain ⟨v, h0, h⟩ := ob_eq h
    obtain ⟨t, h1, h⟩ := ob_eq h
    cases h
    obtain ⟨z, r, hz⟩ := ho _ _ h0 _ _ s.la
    exact wpIn_ends rd hd (.inl hz) (hn ρ _ _ (s.put r (.refl _) s.la h1) (.refl _ _ _))
  | al ao f =>
    obtain ⟨t, h1, h⟩ := ob_eq h
    rw [Tr.fc_eq, fN_eq] at h
    cases h
    obtain ⟨x, C, v, k1, k2, k3⟩ := ho w st.nx (s.la.top _ (Nat.le_refl _))
    obtain ⟨l1, l2⟩ := s.la.alloc C k1
    rw [← hup_set] at l1 l2
    exact wpIn_ends rd hd (.inl k3) (hn _ _ _ (s.put k2 l2.le l1 h1) l2)
  | ac f =>
    obtain ⟨r, h0, h⟩ := ob_eq h
    obtain ⟨t, h1, h⟩ := ob_eq h
    cases h
    refine ho st.h st.nx r.1 r.2.1 r.2.2 h0 w s.la rd next Q ?_
    intro ρ' v w' f
    exact hn ρ' _ _ (s.put f.r f.n.le f.l h1) f.n
theorem wan_ok (hcal : SCal P G cal) (hyld : SYld P G yld) {o : Oper} (s : SR G nt km ρ st a w) (h : wan P G cal yld nt o st = some st')
    (hn : ∀ ρ' a' w', SR G nt km ρ' st' a' w' → Nx ρ st.h.get st.nx w ρ' st'.h.get st'.nx w' → next a' w') : o.wpIn (Wr rd) 0 P a w next Q := by
  obtain ⟨out, h1, h⟩ := ob_eq h
  rw [opOutF_eq] at h1
  exact doO_ok s (opOut_ok s.tr s.la.glb hcal hyld h1) (opOut_nodef h1) h hn
theorem ev1_ok (hcal : SCal P G cal) (hyld : SYld P G yld) {ops : Array Oper} {o : Oper} (s : SR G nt km ρ st a w) (h : ev1 P G cal yld nt ops o st = some st')
    (hn : ∀ ρ' a' w', SR G nt km ρ' st' a' w' → Nx ρ st.h.get st.nx w ρ' st'.h.get st'.nx w' → next a' w') :
    if Region.wanted o (yielded ops a.tmps) then o.wpIn (Wr rd) 0 P a w next Q else (∀ f, o.about P w a.eval = some f → (Wr rd).fn f) ∧ next (a.put o.dst undef) w := by
  unfold ev1 at h
  cases hg : o.guard with
  | none =>
    rw [hg] at h
    have hw : Region.wanted o (yielded ops a.tmps) = true := by unfold Region.wanted; rw [hg]
    rw [if_pos hw]
    exact wan_ok hcal hyld s h hn
  | some g =>
    rw [hg] at h
    obtain ⟨b, h1, h⟩ := ob_eq h
    have hw : Region.wanted o (yielded ops a.tmps) = b := by
      unfold Region.wanted
      rw [hg]
      exact gdA_ok h1 s.tr
    cases b with
    | true =>
      rw [if_pos hw]
      exact wan_ok hcal hyld s h hn
    | false =>
      rw [if_neg (by rw [hw]; decide)]
      obtain ⟨t, h2, h⟩ := ob_eq h
      cases h
      exact ⟨about_wide rd, hn ρ _ _ (s.put (undef_R ρ) (.refl _) s.la h2) (.refl _ _ _)⟩
theorem evL_ok (hcal : SCal P G cal) (hyld : SYld P G yld) {ops : Array Oper} : ∀ (l : List Oper) {ρ : Rn} {st : St} {a : Act} {w : World}, SR G nt km ρ st a w → evL l P G cal yld nt ops st = some st' →
    (∀ ρ' a' w', SR G nt km ρ' st' a' w' → Nx ρ st.h.get st.nx w ρ' st'.h.get st'.nx w' → Q .normal a' w') → wpListIn (Wr rd) 0 P ops Q l a w
  | [], ρ, st, a, w, s, h, hn => by cases h; exact hn ρ a w s (.refl _ _ _)
  | o :: l, ρ, st, a, w, s, h, hn => by
    obtain ⟨st1, h1, h⟩ := ob_eq h
    exact ev1_ok hcal hyld s h1 fun ρ' a' w' s' n' => evL_ok hcal hyld l s' h fun ρ2 a2 w2 s2 n2 => hn ρ2 a2 w2 s2 (n'.trans n2)
end
end Go.Proofs.YthlphddehdjfjaaGreatDoor
