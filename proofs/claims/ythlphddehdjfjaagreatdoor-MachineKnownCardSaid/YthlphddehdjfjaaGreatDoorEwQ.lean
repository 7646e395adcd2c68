/- A reading of closed calls that the kernel can run: code. -/
import Derived.Test.YthlphddehdjfjaaGreatDoorEwO
namespace Go.Proofs.YthlphddehdjfjaaGreatDoor
open Go.RowKit
set_option linter.unusedVariables false
set_option linter.unusedSimpArgs false
set_option linter.unusedSectionVars false

theorem least_of {p : Nat → Prop} (h : ∃ n, p n) : ∃ n, p n ∧ ∀ m, p m → n ≤ m := by
  obtain ⟨n, hn⟩ := h
  induction n using Nat.strongRecOn with
  | _ n ih =>
    by_cases h : ∃ m, m < n ∧ p m
    · obtain ⟨m, h1, h2⟩ := h
      exact ih m h1 h2
    · exact ⟨n, hn, fun m hm => Nat.le_of_not_lt fun hlt => h ⟨m, hlt, hm⟩⟩
open Classical in
noncomputable def leastN (p : Nat → Prop) : Nat := if h : ∃ n, p n then Classical.choose (least_of h) else 0
theorem leastN_spec {p : Nat → Prop} {n : Nat} (h : p n) : p (leastN p) ∧ ∀ m, p m → leastN p ≤ m := by
  unfold leastN
  rw [dif_pos ⟨n, h⟩]
  exact Classical.choose_spec (least_of ⟨n, h⟩)
theorem wpIn_loopN {F : Fence} {rm : Nat} {P : Program} {Q : Exit → Act → World → Prop} {a : Act} {w : World} {c : Code} (I : Nat → Act → World → Prop) (n₀ : Nat) (h₀ : I n₀ a w)
    (round : ∀ n a w, I n a w → c.wpIn F rm P (Exit.then (fun a' w' => ∃ n', n' < n ∧ I n' a' w') Q) a w) : (Code.loop c).wpIn F rm P Q a w := by
  refine wpIn_loop (fun a w => ∃ n, I n a w) (fun a w => leastN (fun n => I n a w)) ⟨n₀, h₀⟩ ?_
  rintro a w ⟨n1, hI⟩
  refine wpIn_mono (round _ a w (leastN_spec (p := fun n => I n a w) hI).1) ?_
  intro e a' w' hq
  cases e with
  | normal =>
    obtain ⟨n', hlt, hI'⟩ := hq
    exact show (∃ n, I n a' w') ∧ leastN (fun n => I n a' w') < leastN (fun n => I n a w) from ⟨⟨n', hI'⟩, Nat.lt_of_le_of_lt ((leastN_spec (p := fun n => I n a' w') hI').2 n' hI') hlt⟩
  | exit id => exact hq
  | goto l => exact hq
  | ret => exact hq
  | panic ch => exact hq
  | outgrown => exact hq

section
variable {P : Program} {G nt km nx : Nat} {ρ ρ' : Rn} {st st' : St} {a : Act} {w w' : World} {h : Tr AO} {kp : Tr Nat} {mc : FuncId} {kn : Kn} {ih : EvT}
theorem zip_ok : ∀ {ps : List Tmp} {args : AV} {vs : List Value} {tm tm' : En} {ts : Array Value}, zipT nt tm ps args = some tm' → R ρ args (.l vs) → TR ρ tm nt ts →
    vs.length = ps.length ∧ tm'.t = tm.t ∧ TR ρ tm' nt ((ps.zip vs).foldl (fun tmps x => tmps.setIfInBounds x.1 x.2) ts)
  | [], args, vs, tm, tm', ts, h, hr, ht => by
    cases hr with
    | nil => cases h; exact ⟨rfl, rfl, ht⟩
    | cons _ _ => cases h
  | p :: ps, args, vs, tm, tm', ts, h, hr, ht => by
    cases hr with
    | nil => cases h
    | cons k1 k2 =>
      obtain ⟨h1, h2⟩ := iff_eq h
      rw [Nat.blt_eq] at h1
      obtain ⟨e1, e2, e3⟩ := zip_ok h2 k2 (ht.put h1 k1)
      exact ⟨by simp [e1], e2, e3⟩
theorem put_loop {id bk C : Nat} {o : AO} {lo lo' : Loop} {ao : AO} (l : Lay G ρ h.get nx w) (e : h.get id = some o) (r : ρ id = some (bk, C)) (hx : w.heap[bk]? = some (.loop lo)) (ho : OR ρ C ao (.loop lo')) :
    Lay G ρ (h.set id ao).get nx (w.putObj bk (.loop lo')) ∧ Nx ρ h.get nx w ρ (h.set id ao).get nx (w.putObj bk (.loop lo')) := by
  rw [hup_set]
  exact l.put e r ((Keeps.refl (fun k => k = bk) w).putObj (.inl rfl) _) (World.putObj_heap_same (lt_block hx)) ho
theorem yldA_ok (hc : SCode P G ih) : SYld P G (yldA ih) := by
  intro id args h nx r h' nx' hy ρ vs w bk C hid hr l
  obtain ⟨ao, h1, hy⟩ := ob_eq hy
  split at hy
  · rename_i pd tm nt km ps asg body
    obtain ⟨tm', h2, hy⟩ := ob_eq hy
    obtain ⟨⟨x1, s1⟩, h3, hy⟩ := ob_eq hy
    cases x1 with
    | exit _ => cases hy
    | ret => cases hy
    | normal =>
      obtain ⟨ao1, h4, hy⟩ := ob_eq hy
      split at hy
      · rename_i pd1 tm1 nt1 km1 ps1 asg1 body1
        obtain ⟨⟨x2, s2⟩, h5, hy⟩ := ob_eq hy
        obtain ⟨ao2, h6, hy⟩ := ob_eq hy
        split at hy
        · rename_i st2 pd2 tm2 nt2 km2 ps2 asg2 body2
          obtain ⟨x, e1, e2⟩ := l.at h1 hid
          cases e2 with
          | lp q q1 q2 q3 q4 q5 q6 =>
            rename_i lo
            subst q3 q4 q5
            obtain ⟨z1, z2, z3⟩ := zip_ok h2 hr q
            refine ⟨lo.fn, _, lo.assign, lo.body, run_yield e1 (by simpa using z1), roundIn_of_wpIn trivial ?_⟩
            have ha : (lo.params.zip (⟨vs⟩ : Array Value)).foldl (fun tmps (t, a) => tmps.setIfInBounds t a) lo.tmps = (lo.params.toList.zip vs).foldl (fun tmps x => tmps.setIfInBounds x.1 x.2) lo.tmps := by
              rw [← Array.foldl_toList, Array.toList_zip]
            rw [ha]
            refine hc (some id) nt km lo.assign _ _ s1 h3 ρ (some bk) _ w ⟨C, hid⟩ ⟨z3, fun k hb => by rw [z2]; exact q6 k hb, l, .nil⟩ _ ?_
            intro ρ1 a1 w1 s1' n1
            have hid1 := n1.le _ _ hid
            obtain ⟨x, f1, f2⟩ := s1'.la.at h4 hid1
            cases f2 with
            | lp p p1 p2 p3 p4 p5 p6 =>
              rename_i lo1
              refine ⟨_, run_beginRound f1 p1, ?_⟩
              obtain ⟨la2, nx2⟩ := put_loop (lo' := { lo1 with state := .busy }) (ao := .lp .busy pd1 tm1 nt1 km1 ps1 asg1 body1) s1'.la h4 hid1 f1 (.lp p rfl p2 p3 p4 p5 p6)
              refine hc (some id) nt km lo.body ⟨s1.tm, s1.h.set id (.lp .busy pd1 tm1 nt1 km1 ps1 asg1 body1), s1.nx, s1.ms⟩ x2 s2 h5 ρ1 (some bk) a1 _ ⟨C, hid1⟩ ⟨s1'.tr, s1'.km, la2, s1'.df⟩ _ ?_
              intro ρ2 a2 w3 s2' n2
              have hid2 := n2.le _ _ hid1
              obtain ⟨x, g1, g2⟩ := s2'.la.at h6 hid2
              cases g2 with
              | lp o o1 o2 o3 o4 o5 o6 =>
                rename_i lo2
                cases x2 with
                | normal =>
                  cases hy
                  obtain ⟨la3, nx3⟩ := put_loop (lo' := { lo2 with state := .ready, pending := none }) (ao := .lp .ready none tm2 nt2 km2 ps2 asg2 body2) s2'.la h6 hid2 g1 (.lp o rfl rfl o3 o4 o5 o6)
                  exact ⟨_, _, run_endRound none g1, _, ρ2, rfl, .b true, la3, ((n1.trans nx2).trans n2).trans nx3⟩
                | ret =>
                  cases hy
                  obtain ⟨la3, nx3⟩ := put_loop (lo' := { lo2 with state := .done, pending := some .ret }) (ao := .lp .done (some .ret) tm2 nt2 km2 ps2 asg2 body2) s2'.la h6 hid2 g1 (.lp o rfl rfl o3 o4 o5 o6)
                  exact ⟨_, _, run_endRound (some .ret) g1, _, ρ2, rfl, .b false, la3, ((n1.trans nx2).trans n2).trans nx3⟩
                | exit n =>
                  cases hy
                  obtain ⟨la3, nx3⟩ := put_loop (lo' := { lo2 with state := .done, pending := some (.exit n) }) (ao := .lp .done (some (.exit n)) tm2 nt2 km2 ps2 asg2 body2) s2'.la h6 hid2 g1 (.lp o rfl rfl o3 o4 o5 o6)
                  exact ⟨_, _, run_endRound (some (.exit n)) g1, _, ρ2, rfl, .b false, la3, ((n1.trans nx2).trans n2).trans nx3⟩
        · cases hy
      · cases hy
  · cases hy
theorem rngK_ok (hc : SCode P G ih) (hkn : KnOk P G kn) {rd r : Option Nat} {g : Operand} {v : AV} {id l C : Nat} {tm : En} {x : XA} (h : rngK P kp mc kn ih rd nt km v id st tm = some (x, st')) {e : Act}
    (s : SR G nt km ρ ⟨tm, st.h, st.nx, st.ms⟩ a w) (hv : R ρ v (.v (e.eval g))) (hid : ρ id = some (l, C)) (hro : RO ρ rd r) {Q : Exit → Act → World → Prop}
    (hn : ∀ ρ' a' w', SR G nt km ρ' st' a' w' → Nx ρ st.h.get st.nx w ρ' st'.h.get st'.nx w' → Q x.toE a' w') :
    ∃ d f args, (resolve e.eval (rangeCall g l) 0).run P w = .ok d w ∧ (invoke d.target d.args).run P w = .ok (.enter f args) w ∧ CallsIn (Wr r) 0 P f args w (rangePost (Wr r) 0 P l Q a) := by
  unfold rngK at h
  split at h
  · rename_i fn caps
    obtain ⟨hf, h⟩ := iff_eq h
    obtain ⟨⟨z, hh, n2⟩, h1, h⟩ := ob_eq h
    obtain ⟨ao, h2, h⟩ := ob_eq h
    generalize hfv : e.eval g = fv at hv
    cases hv with
    | f hv =>
      rename_i vs
      obtain ⟨k1, k2⟩ := calA_enter (P := P) (kp := kp) (mc := mc) hc hkn (by simpa using hf) h1 ρ (.func (.yield l) #[] #[] :: vs) w (.cons (.fy hid) hv) s.la
      refine ⟨{ target := .fn (.func fn) ⟨vs⟩, args := #[.func (.yield l) #[] #[]] }, fn, ⟨.func (.yield l) #[] #[] :: vs⟩, ?_, ?_, (wr_callsIn k2).mono ?_⟩
      · simp only [resolve, hfv, Deferred.ofValue, Sem.run_pure]
        simp [Act.eval]
      · have := k1 w s.la
        simp only [invoke]
        rw [show (#[Value.func (.yield l) #[] #[]] ++ (⟨vs⟩ : Array Value)) = ⟨.func (.yield l) #[] #[] :: vs⟩ by simp]
        exact this
      · rintro e' w3 ⟨y, ρ', rfl, fin⟩
        have hid' := fin.n.le _ _ hid
        split at h
        · cases h
        · rename_i st0 pd tm2 nt2 km2 ps2 asg2 body2 hne
          rw [fN_eq, Tr.fc_eq] at h
          obtain ⟨x0, f1, f2⟩ := fin.l.at h2 hid'
          cases f2 with
          | lp p p1 p2 p3 p4 p5 p6 =>
            rename_i lo
            have hb : lo.state ≠ .busy := fun hb => hne (p1.symm.trans hb)
            obtain ⟨l4, n4⟩ := fin.l.drop (w' := w3.putObj l (.loop { lo with state := .exhausted })) h2 hid' ((Keeps.refl (fun k => k = l) w3).putObj (.inl rfl) _)
            refine ⟨_, _, run_endLoop f1 hb, ?_⟩
            have s4 : SR G nt km ρ' ⟨tm, hh.del id, n2, st.ms⟩ a (w3.putObj l (.loop { lo with state := .exhausted })) := ⟨s.tr.mono fin.n.le, s.km, l4, s.df.mono fin.n.le⟩
            split
            · rename_i hpd
              rw [hpd] at p2
              subst p2
              cases h
              exact hn _ _ _ s4 (fin.n.trans n4)
            · rename_i c hpd
              rw [hpd] at p2
              subst p2
              refine hc rd nt km c ⟨tm, hh.del id, n2, st.ms⟩ x st' h ρ' r a _ (hro.mono fin.n.le) s4 _ ?_
              intro ρ5 a5 w5 s5 n5
              exact hn _ _ _ s5 ((fin.n.trans n4).trans n5)
        · cases h
  · cases h
theorem rngA_ok (hc : SCode P G ih) (hkn : KnOk P G kn) {rd r : Option Nat} {g : Operand} {ps : Array Tmp} {asg body : Code} {x : XA} (h : rngA P G kp mc kn ih rd nt km g ps asg body st = some (x, st'))
    (s : SR G nt km ρ st a w) (hro : RO ρ rd r) {Q : Exit → Act → World → Prop}
    (hn : ∀ ρ' a' w', SR G nt km ρ' st' a' w' → Nx ρ st.h.get st.nx w ρ' st'.h.get st'.nx w' → Q x.toE a' w') : (Code.rangeFunc g ps asg body).wpIn (Wr r) 0 P Q a w := by
  obtain ⟨v, h1, h⟩ := ob_eq h
  have hv := opdG (e := a) s.tr s.la.glb h1
  refine wpIn_rangeFunc fun fn _ => ?_
  cases rd with
  | none =>
    cases r with
    | some _ => exact hro.elim
    | none =>
      obtain ⟨l1, n1⟩ := s.la.alloc (o := .df) (x := .deferred (some [])) 0 .df
      rw [← hup_set] at l1 n1
      have hle2 := Rn.le_up (i := st.nx + 1) ((w.alloc (.deferred (some []))).heap.size, 0) (l1.top _ (Nat.le_refl _))
      obtain ⟨l2, n2⟩ := l1.alloc (o := .lp .ready none st.tm nt km ps asg body) (x := .loop { state := .ready, pending := none, fn, tmps := a.tmps, params := ps, assign := asg, body, defers := w.heap.size }) 0
        (.lp (s.tr.mono (n1.le.trans hle2)) rfl rfl rfl rfl rfl s.km)
      rw [← hup_set] at l2 n2
      have hid : (Rn.up (Rn.up ρ st.nx (w.heap.size, 0)) (st.nx + 1) ((w.alloc (.deferred (some []))).heap.size, 0)) (st.nx + 1) = some (w.heap.size + 1, 0) := by
        rw [Rn.up_same, World.size_alloc]
      have hmk : (Rn.up (Rn.up ρ st.nx (w.heap.size, 0)) (st.nx + 1) ((w.alloc (.deferred (some []))).heap.size, 0)) st.nx = some (w.heap.size, 0) := n2.le _ _ (Rn.up_same _ _ _)
      have hle := n1.le.trans n2.le
      obtain ⟨d, f, args, e1, e2, e3⟩ := rngK_ok (a := { a with defers := [{ target := .collected w.heap.size, args := #[] }] ++ a.defers }) (r := none) hc hkn h ⟨s.tr.mono hle, s.km, l2, .cons hmk (s.df.mono hle)⟩ (hv.mono hle) hid trivial
        (Q := Q) (fun ρ' a' w' s' n' => hn ρ' a' w' s' ((n1.trans n2).trans n'))
      exact ⟨_, _, _, d, _, f, args, _, run_enterLoop_outer fn a.tmps ps asg body, e1, fun _ _ => trivial, e2, fun hh => by simp [Fence.wide] at hh, e3⟩
  | some lid =>
    cases r with
    | none => exact hro.elim
    | some bk =>
      obtain ⟨ao, h2, h⟩ := ob_eq h
      split at h
      · obtain ⟨C, hro'⟩ := hro
        obtain ⟨x0, f1, f2⟩ := s.la.at h2 hro'
        cases f2 with
        | lp p p1 p2 p3 p4 p5 p6 =>
          rename_i lo
          have hle := Rn.le_up (i := st.nx) (w.heap.size, 0) (s.la.top _ (Nat.le_refl _))
          obtain ⟨l2, n2⟩ := s.la.alloc (o := .lp .ready none st.tm nt km ps asg body) (x := .loop { state := .ready, pending := none, fn, tmps := a.tmps, params := ps, assign := asg, body, defers := lo.defers }) 0
            (.lp (s.tr.mono hle) rfl rfl rfl rfl rfl s.km)
          rw [← hup_set] at l2 n2
          obtain ⟨d, f, args, e1, e2, e3⟩ := rngK_ok (a := { a with defers := [] ++ a.defers }) (r := some bk) hc hkn h ⟨s.tr.mono hle, s.km, l2, s.df.mono hle⟩ (hv.mono hle) (Rn.up_same _ _ _) (RO.mono hle (rd := some lid) (r := some bk) ⟨C, hro'⟩)
            (Q := Q) (fun ρ' a' w' s' n' => hn ρ' a' w' s' (n2.trans n'))
          exact ⟨_, _, _, d, _, f, args, _, run_enterLoop_inner f1 fn a.tmps ps asg body, e1, fun _ _ => trivial, e2, fun hh => by simp [Fence.wide] at hh, e3⟩
      · cases h
end
end Go.Proofs.YthlphddehdjfjaaGreatDoor
