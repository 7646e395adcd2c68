/- A reading of closed calls that the kernel can run: ranges over maps with several entries, in every order. -/
import Derived.Test.YthlphddehdjfjaaGreatDoorEwLp
import Derived.Maps.RangeRun
namespace Go.Proofs.YthlphddehdjfjaaGreatDoor
open Go.RowKit
set_option linter.unusedVariables false
set_option linter.unusedSimpArgs false
set_option linter.unusedSectionVars false

theorem MR.pick {ρ : Rn} {es : List ME} {ms : List MapEntry} (h : MR ρ es ms) {m : MapEntry} (hm : m ∈ ms) : ∃ y ∈ es, R ρ y.k (.v m.key) ∧ R ρ y.v (.v m.val) ∧ m.born = y.b := by
  induction h with
  | nil => cases hm
  | @cons e m' es ms hk hv hb _ ih =>
    rcases List.mem_cons.1 hm with rfl | hm
    · exact ⟨e, by simp, hk, hv, hb⟩
    · obtain ⟨y, h1, h2⟩ := ih hm
      exact ⟨y, by simp [h1], h2⟩
/-- what the step of a range may come to -/
noncomputable def opNxN (G : Nat) (tm : En) (x : Operand) (h : Tr AO) (nx : Nat) : Option (List (AV × Tr AO × Nat)) :=
  ob (opd G tm x) fun c => match c with
    | .p id 0 => ob (h.get id) fun ao => match ao with
      | .mi m since seen stepped => ob (getM h (.m m)) fun q =>
          if allE (fun n => decide (n < since)) q.1 && decide (since ≤ stepped) then
            (match fltE (fun n => !seen.contains n) q.1 with
              | [] => none
              | y :: ys => some ((y :: ys).map fun y => (.t (.cons (.b true) (.cons y.k (.cons y.v .nil))), h.set id (.mi m since (seen ++ [y.b]) q.2), nx)))
          else none
      | _ => none
    | _ => none
section
variable {P : Program} {G nt km nx : Nat} {ρ ρ' : Rn} {st st' : St} {a e : Act} {w w' : World} {h : Tr AO} {tm : En}
theorem opNxN_ok (ht : TR ρ tm nt e.tmps) (hg : ∀ g, g < G → ρ g = some (g, 0)) {o : Oper} {x : Operand} (ho : o.op = .next x false) {L : List (AV × Tr AO × Nat)} (hr : opNxN G tm x h nx = some L) (l : Lay G ρ h.get nx w) :
    ∃ q ∈ L, ∃ v w', R ρ q.1 (.v v) ∧ Lay G ρ q.2.1.get q.2.2 w' ∧ Nx ρ h.get nx w ρ q.2.1.get q.2.2 w' ∧ Ends P e o w v w' := by
  have hrun : ∀ v w', (Instr.next (e.eval x) false o.type).run P w = .ok v w' → Ends P e o w v w' := fun v w' hv => .inl (by simp [execOp, ho, hv])
  replace hr := ob_eq hr; obtain ⟨c, h1, hr⟩ := hr
  have r1 := opdG ht hg h1
  generalize e.eval x = xv at r1 hrun
  split at hr
  · rename_i id
    replace hr := ob_eq hr; obtain ⟨ao, h2, hr⟩ := hr
    cases r1 with
    | p hp =>
      rename_i bk C
      obtain ⟨x0, q1, q2⟩ := l.at h2 hp
      have hlt := lt_block q1
      split at hr
      · rename_i m since seen stepped
        replace hr := ob_eq hr; obtain ⟨q, h3, hr⟩ := hr
        split at hr
        · rename_i hcond
          rw [Bool.and_eq_true] at hcond
          cases q2 with
          | mi hm =>
            rename_i mb mc
            obtain ⟨es, clock⟩ := q
            obtain ⟨id', mb', C', ms, hid, e1, a1, a2, a3, a4⟩ := getM_ok (v := .map (some mb)) l h3 (.m hm)
            cases hid; cases e1
            have hold : ∀ z ∈ ms.toList, z.born < since := fun z hz => by
              have := allE_ok a4 (fun n => decide (n < since))
              rw [hcond.1] at this
              simpa using List.all_eq_true.1 this z hz
            have hleft := fltE_ok a4 (fun n => !seen.contains n)
            have hLl : (leftOf ms ⟨seen⟩).toList = ms.toList.filter (fun m => !seen.contains m.born) := by unfold leftOf; simp
            rw [← hLl] at hleft
            split at hr
            · cases hr
            · rename_i y ys hys
              cases hr
              rw [hys] at hleft
              rcases run_next_at (P := P) w o.type bk mb since stepped ⟨seen⟩ ms clock q1 a3 hold (of_decide_eq_true hcond.2) with ⟨h0, _⟩ | ⟨m0, hm0, w1, hw1, hrun1⟩
              · generalize hz : (leftOf ms ⟨seen⟩).toList = z at hleft
                cases hleft with
                | cons _ _ _ _ =>
                  have : (leftOf ms ⟨seen⟩).toList.length = 0 := by simpa using h0
                  rw [hz] at this
                  cases this
              · obtain ⟨y0, hy0, hk, hv, hb⟩ := hleft.pick hm0
                have kw : Keeps (fun _ => False) w w1 := by
                  rcases hw1 with rfl | rfl
                  · exact Keeps.refl _ _
                  · exact (Keeps.refl _ _).drew
                have l1 := l.same kw
                have hsb : ∀ O : Obj, Go.ChangeMaps.setBlock w1 bk O = w1.putObj bk O := fun O => rfl
                rw [hsb] at hrun1
                have hpush : (⟨seen⟩ : Array Nat).push m0.born = ⟨seen ++ [y0.b]⟩ := Array.ext' (by simp [hb])
                rw [hpush] at hrun1
                obtain ⟨c1, c2⟩ := l1.put (x := .mapIter (some mb) since ⟨seen ++ [y0.b]⟩ clock) (o' := .mi m since (seen ++ [y0.b]) clock) h2 hp (keeps_putObj w1 bk _) (World.putObj_heap_same (lt_block (block_keep q1 kw (fun h => h)))) (.mi hm)
                rw [← hup_set] at c1 c2
                exact ⟨_, List.mem_map.2 ⟨y0, hy0, rfl⟩, _, _, .t (.cons (.b _) (.cons hk (.cons hv .nil))), c1, (Nx.same kw).trans c2, hrun _ _ hrun1⟩
        · cases hr
      · cases hr
  · cases hr
end
/-- all of a list, or none -/
noncomputable def allO {α β : Type} (f : α → Option β) (l : List α) : Option (List β) := List.rec (motive := fun _ => Option (List β)) (some []) (fun x _ ih => ob (f x) fun y => ob ih fun ys => some (y :: ys)) l
theorem allO_ok {α β : Type} {f : α → Option β} : ∀ {l : List α} {r : List β}, allO f l = some r → ∀ x ∈ l, ∃ y ∈ r, f x = some y
  | [], r, h, x, hx => by cases hx
  | z :: l, r, h, x, hx => by
    replace h : ob (f z) (fun y => ob (allO f l) fun ys => some (y :: ys)) = some r := h
    obtain ⟨y, h1, h⟩ := ob_eq h
    obtain ⟨ys, h2, h⟩ := ob_eq h
    cases h
    rcases List.mem_cons.1 hx with rfl | hx
    · exact ⟨y, by simp, h1⟩
    · obtain ⟨y', h3, h4⟩ := allO_ok h2 x hx
      exact ⟨y', by simp [h3], h4⟩
section
variable (P : Program) (kp : Tr Nat) (mc : FuncId) (kn : Kn) (nt km n : Nat)
/-- what a region that begins with the step of a range may come to -/
noncomputable def rgN (c : Code) (st : St) : Option (List St) := match c with
  | .region _ ops false => match ops.toList with
    | o :: rest => match o.op, o.guard with
      | .next x false, none => ob (opNxN 1 st.tm x st.h st.nx) fun L => allO (fun q => ob (putA o.dst nt st.tm q.1) fun t => ob (evL rest P 1 (calA P kp mc kn (evC P 1 kp mc kn n)) (yldA (evC P 1 kp mc kn n)) nt ops ⟨t, q.2.1, q.2.2, st.ms⟩) fun s1 => some (⟨flsE km s1.tm, s1.h, s1.nx, s1.ms⟩ : St)) L
      | _, _ => none
    | [] => none
  | _ => none
/-- what the body of a loop that begins so may come to -/
noncomputable def bdN (c : Code) (st : St) : Option (List (XA × St)) := match c with
  | .seq x y => ob (rgN P kp mc kn nt km n x st) fun L => allO (fun s => evC P 1 kp mc kn n none nt km y s) L
  | _ => none
/-- from this state the loop comes to one of these ends, after so many rounds -/
inductive GoN (c : Code) (F : XA → St → Prop) : Nat → St → Prop
  | stop {st st' : St} {x : XA} (h : evC P 1 kp mc kn n none nt km c st = some (x, st')) (hx : x ≠ .normal) (hf : F x st') : GoN c F 0 st
  | step {m : Nat} {st s1 : St} (h : evC P 1 kp mc kn n none nt km c st = some (.normal, s1)) (g : GoN c F m s1) : GoN c F (m + 1) st
  | pick {m : Nat} {st : St} {L : List (XA × St)} (h : bdN P kp mc kn nt km n c st = some L) (hL : ∀ q ∈ L, q.1 = .normal) (hG : ∀ q ∈ L, GoN c F m q.2) : GoN c F (m + 1) st
end
section
variable {P : Program} {kp : Tr Nat} {mc : FuncId} {kn : Kn} {nt km n : Nat} {c : Code} {st : St} {ρ : Rn} {r : Option Nat} {a : Act} {w : World}
theorem rgN_ok (hD : Drawn P 1) (hkn : KnOk P 1 kn) (hcl : CloneOk P mc) {L : List St} (h : rgN P kp mc kn nt km n c st = some L) (s : SR 1 nt km ρ st a w) (Q : Exit → Act → World → Prop)
    (hn : ∀ s1 ∈ L, ∀ ρ' a' w', SR 1 nt km ρ' s1 a' w' → Nx ρ st.h.get st.nx w ρ' s1.h.get s1.nx w' → Q .normal a' w') : c.wpIn (Wr r) 0 P Q a w := by
  have hc := code_ok hD hkn hcl (kp := kp) n
  have hcal : SCal P 1 (calA P kp mc kn (evC P 1 kp mc kn n)) := calA_ok hc hkn hcl
  have hyld : SYld P 1 (yldA (evC P 1 kp mc kn n)) := yldA_ok hc
  unfold rgN at h
  split at h
  · rename_i id ops
    split at h
    · rename_i o rest hops
      split at h
      · rename_i x ho hg
        obtain ⟨L0, h1, h⟩ := ob_eq h
        obtain ⟨q, hq, v, w', hr, la', n', hend⟩ := opNxN_ok (P := P) (e := a) s.tr s.la.glb ho h1 s.la
        obtain ⟨s2, hs2, h3⟩ := allO_ok h q hq
        obtain ⟨t, h4, h3⟩ := ob_eq h3
        obtain ⟨s1, h5, h3⟩ := ob_eq h3
        cases h3
        refine wpIn_region_list ?_
        rw [hops]
        have hw : Region.wanted o (yielded ops a.tmps) = true := by unfold Region.wanted; rw [hg]
        show if Region.wanted o (yielded ops a.tmps) then _ else _
        rw [if_pos hw]
        refine wpIn_ends r (fun c e => by rw [ho] at e; cases e) hend ?_
        have s1' := s.put hr n'.le la' h4
        exact evL_ok hcal hyld rest s1' h5 fun ρ2 a2 w2 s2 n2 => hn _ hs2 ρ2 a2 w2 s2.fls (n'.trans n2)
      · cases h
    · cases h
  · cases h
theorem bdN_ok (hD : Drawn P 1) (hkn : KnOk P 1 kn) (hcl : CloneOk P mc) {L : List (XA × St)} (h : bdN P kp mc kn nt km n c st = some L) (hro : RO ρ none r) (s : SR 1 nt km ρ st a w) (Q : Exit → Act → World → Prop)
    (hn : ∀ q ∈ L, ∀ ρ' a' w', SR 1 nt km ρ' q.2 a' w' → Nx ρ st.h.get st.nx w ρ' q.2.h.get q.2.nx w' → Q q.1.toE a' w') : c.wpIn (Wr r) 0 P Q a w := by
  unfold bdN at h
  split at h
  · rename_i x y
    obtain ⟨L0, h1, h⟩ := ob_eq h
    refine wpIn_seq (rgN_ok hD hkn hcl h1 s _ ?_)
    intro s1 hs1 ρ1 a1 w1 s1' n1
    obtain ⟨⟨z, s2⟩, hq, h2⟩ := allO_ok h s1 hs1
    exact code_ok hD hkn hcl n none nt km y s1 z s2 h2 ρ1 r a1 w1 (hro.mono n1.le) s1' _ fun ρ' a' w' s' n' => hn _ hq ρ' a' w' s' (n1.trans n')
  · cases h
/-- A LOOP OVER A MAP, IN EVERY ORDER. -/
theorem loop_goN (hD : Drawn P 1) (hkn : KnOk P 1 kn) (hcl : CloneOk P mc) {F : XA → St → Prop} {m : Nat} (g : GoN P kp mc kn nt km n c F m st) (hro : RO ρ none r) (s : SR 1 nt km ρ st a w) (Q : Exit → Act → World → Prop)
    (hn : ∀ x st', F x st' → ∀ ρ' a' w', SR 1 nt km ρ' st' a' w' → Nx ρ st.h.get st.nx w ρ' st'.h.get st'.nx w' → Q x.toE a' w') : (Code.loop c).wpIn (Wr r) 0 P Q a w := by
  refine wpIn_loopN (fun m a' w' => ∃ ρ' st1, GoN P kp mc kn nt km n c F m st1 ∧ SR 1 nt km ρ' st1 a' w' ∧ Nx ρ st.h.get st.nx w ρ' st1.h.get st1.nx w') m ⟨ρ, st, g, s, .refl _ _ _⟩ ?_
  rintro k a1 w1 ⟨ρ1, st1, g1, s1, n1⟩
  cases g1 with
  | @stop _ st' x h hx hf =>
    refine code_ok hD hkn hcl n none nt km c st1 x st' h ρ1 r a1 w1 (hro.mono n1.le) s1 _ ?_
    intro ρ' a' w' s' n'
    cases x with
    | normal => exact absurd rfl hx
    | exit id => exact hn _ _ hf ρ' a' w' s' (n1.trans n')
    | ret => exact hn _ _ hf ρ' a' w' s' (n1.trans n')
  | @step m _ s2 h g =>
    refine code_ok hD hkn hcl n none nt km c st1 .normal s2 h ρ1 r a1 w1 (hro.mono n1.le) s1 _ ?_
    intro ρ' a' w' s' n'
    exact ⟨m, Nat.lt_succ_self m, ρ', s2, g, s', n1.trans n'⟩
  | @pick m _ L h hL hG =>
    refine bdN_ok hD hkn hcl h (hro.mono n1.le) s1 _ ?_
    intro q hq ρ' a' w' s' n'
    rw [hL q hq]
    exact ⟨m, Nat.lt_succ_self m, ρ', q.2, hG q hq, s', n1.trans n'⟩
end
#print axioms loop_goN
end Go.Proofs.YthlphddehdjfjaaGreatDoor
