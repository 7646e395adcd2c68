/- MachineNil of layer 40. -/
import Derived.Test.YtblpckghfakmfaaGreatDoorEwSh
import Derived.Test.YtblpckghfakmfaaGreatDoorEwWk
namespace Go.Proofs.YtblpckghfakmfaaGreatDoor
open Go.RowKit Go.Proofs
set_option maxRecDepth 100000
noncomputable def kn2 : Kn := fun f args h nx => Bool.rec (motive := fun _ => Option (AV × Tr AO × Nat)) none (AV.lng args |> fun n => Nat.rec (motive := fun _ => Option (AV × Tr AO × Nat)) (some (.b true, h, nx)) (fun _ _ => none) n) (Nat.beq f 28)
theorem kn2_ok : KnOk Tryz.prog 1 kn2 := fun f args h nx r h' nx' e => by
  unfold kn2 at e
  cases hb : Nat.beq f 28 with
  | false => rw [hb] at e; cases e
  | true =>
    rw [hb] at e
    have := Nat.eq_of_beq_eq_true hb
    subst this
    replace e : Nat.rec (motive := fun _ => Option (AV × Tr AO × Nat)) (some (.b true, h, nx)) (fun _ _ => none) args.lng = some (r, h', nx') := e
    intro ρ vs w hr l
    have hl := hr.lng
    cases hn : args.lng with
    | succ n => rw [hn] at e; cases e
    | zero =>
      rw [hn] at e hl
      cases e
      obtain rfl : vs = [] := List.length_eq_zero_iff.1 hl
      have hent : ∃ fn c, entA Tryz.prog 28 = some (fn, c) := ⟨Tryz.f28, _, rfl⟩
      obtain ⟨fn, c, hent⟩ := hent
      refine ⟨fun w' _ => (entA_eq hent).2.2 _ _, (works40 w).mono ?_⟩
      rintro e w' ⟨rfl, hk⟩
      exact ⟨_, ρ, rfl, .b true, l.same hk, .same hk⟩
noncomputable def rest4 : Code := match Tryz.f4.body with
  | some (.seq _ (.seq _ r)) => r
  | _ => .skip
noncomputable def u6 : Tr AV := AV.tab (.cons .any (.cons .any (.cons .any (.cons .any (.cons .any (.cons .any .nil)))))) 40
noncomputable def st4 : St := ⟨(En.put ⟨[], .e⟩ 2 (.p 1 0)).put 1 .any, (Tr.e : Tr AO).set 1 (.c 6 28 u6), 2, []⟩
noncomputable def isR (x : Option (XA × St)) : Bool := match x with
  | some (.ret, st) => (match st.tm.get 4, st.ms with
    | some (.b true), [] => true
    | _, _ => false)
  | _ => false
theorem rest_ev : isR (evC Tryz.prog 1 kp0 424 kn2 100000 none 82 (kmA kp0 4) rest4 st4) = true := by kernel_rfl
theorem isR_ok {x : Option (XA × St)} (h : isR x = true) : ∃ st, x = some (.ret, st) ∧ st.tm.get 4 = some (.b true) ∧ st.ms = [] := by
  unfold isR at h
  split at h
  · rename_i st
    split at h
    · rename_i h1 h2
      exact ⟨st, rfl, h1, h2⟩
    · cases h
  · cases h
/-- the state behind the call of Short -/
theorem sr4 {w w1 : World} {a : Act} {x : Value} {bs : List Value} (hb : ∀ (j : Nat) (v : Value), bs[j]? = some v → v.oneCell' = true) (hl : bs.length = 6) (h : Keeps (fun _ => False) (w.alloc (.cells ⟨bs⟩ 28)) w1) (hs : a.tmps.size = 82)
    (h1 : a.tmps[1]? = some x) (hx : x.oneCell' = true) (h2 : a.tmps[2]? = some (.pointer (some ⟨w.heap.size, 0, none⟩))) (hd : a.defers = []) : ∃ ρ, SR 1 82 (kmA kp0 4) ρ st4 a w1 ∧ Im ρ st4.h.get = Im (ρ1.up 1 (w.heap.size, 0)) st4.h.get := by
  obtain ⟨l1, _⟩ := (lay1 w).alloc (o := .c 6 28 u6) (x := .cells ⟨bs⟩ 28) 0 (.c hl fun j c hc => by
    have hn := tab_get 40 _ _ _ hc
    have hlt : j < 6 := (show R ρ1 (.cons .any (.cons .any (.cons .any (.cons .any (.cons .any (.cons .any .nil)))))) (.l [.bool true, .bool true, .bool true, .bool true, .bool true, .bool true]) from .cons (.any rfl) (.cons (.any rfl) (.cons (.any rfl) (.cons (.any rfl) (.cons (.any rfl) (.cons (.any rfl) .nil)))))).lt hn
    have hcany : c = .any := by
      match j, hlt with
      | 0, _ => cases hn; rfl
      | 1, _ => cases hn; rfl
      | 2, _ => cases hn; rfl
      | 3, _ => cases hn; rfl
      | 4, _ => cases hn; rfl
      | 5, _ => cases hn; rfl
    subst hcany
    have hj : bs[j]? = some bs[j] := List.getElem?_eq_getElem (by omega)
    exact ⟨bs[j], by simp [hj], hb j _ hj, .any (hb j _ hj)⟩)
  rw [← hup_set] at l1
  refine ⟨_, ⟨⟨hs, fun k c hc => ?_⟩, fun k _ => rfl, l1.same h, by rw [hd]; exact .nil⟩, rfl⟩
  replace hc : ((En.put ⟨[], .e⟩ 2 (.p 1 0)).put 1 .any).get k = some c := hc
  rw [En.get_put] at hc
  split at hc
  · rename_i e
    subst e
    cases hc
    exact ⟨x, h1, .any hx⟩
  · rw [En.get_put] at hc
    split at hc
    · rename_i e
      subst e
      cases hc
      exact ⟨_, h2, .p (Rn.up_same _ _ _)⟩
    · cases hc
theorem rest_ok {w w1 : World} {a : Act} {x : Value} {bs : List Value} (hb : ∀ (j : Nat) (v : Value), bs[j]? = some v → v.oneCell' = true) (hl : bs.length = 6) (h : Keeps (fun _ => False) (w.alloc (.cells ⟨bs⟩ 28)) w1) (hs : a.tmps.size = 82)
    (h1 : a.tmps[1]? = some x) (hx : x.oneCell' = true) (h2 : a.tmps[2]? = some (.pointer (some ⟨w.heap.size, 0, none⟩))) (hd : a.defers = []) :
    Code.wp Tryz.prog rest4 (bodyPost Tryz.prog Tryz.f4 fun e w' => e = .returned (.bool true) ∧ Keeps (fun _ => False) w w') a w1 := by
  obtain ⟨st', e1, e2, e3⟩ := isR_ok rest_ev
  obtain ⟨ρ, s4, him⟩ := sr4 hb hl h hs h1 hx h2 hd
  refine wpIn_wide.1 (code_ok (drawn_ok mixed) kn2_ok clones 100000 none 82 (kmA kp0 4) rest4 st4 .ret st' e1 ρ none _ w1 trivial s4 _ ?_)
  intro ρ' a' w' s' n'
  have hd : a'.defers = [] := by
    have := s'.df
    rw [e3] at this
    generalize a'.defers = ds at this
    cases this
    rfl
  obtain ⟨v, f1, f2⟩ := s'.tr.2 4 _ e2
  cases f2
  refine ⟨hd, .bool true, ?_, rfl, ?_⟩
  · rw [results_tmp rfl]
    simp [Array.getD_eq_getD_getElem?, f1]
  · refine (((Keeps.refl (fun _ => False) w).alloc _).trans h).trans' n'.kp (fun _ _ h => h) fun b hb hi => ?_
    rw [him] at hi
    obtain ⟨j, o, C, g1, g2⟩ := hi
    exfalso
    by_cases hj : j = 1
    · subst hj
      rw [Rn.up_same] at g2
      cases g2
      exact Nat.lt_irrefl _ hb
    · have : (Tr.set (Tr.e : Tr AO) 1 (.c 6 28 u6)).get j = some o := g1
      rw [Tr.get_set, if_neg hj] at this
      cases this
theorem six {k m a b c : Int} {s : ByteArray} (j : Nat) (v : Value) (hv : [Value.int .i64 k, .int .i64 m, .int .i64 a, .int .i64 b, .int .i64 c, .string s][j]? = some v) : v.oneCell' = true := by
  match j, hv with
  | 0, hv => cases hv; rfl
  | 1, hv => cases hv; rfl
  | 2, hv => cases hv; rfl
  | 3, hv => cases hv; rfl
  | 4, hv => cases hv; rfl
  | 5, hv => cases hv; rfl
theorem machineNil_walk (k m a b c : Int) (s : ByteArray) (i : Int) (w : World) :
    Calls Tryz.prog 4 #[.agg #[.int .i64 k, .int .i64 m, .int .i64 a, .int .i64 b, .int .i64 c, .string s], .int .i64 i] w fun e w' => e = .returned (.bool true) ∧ Keeps (fun _ => False) w w' := by
  go_enter Tryz.func4, Tryz.ntmps4
  go_wp2_with fail
  rename_i K0 hK0 K1 hK1 K2 hK2
  have HK0 := hid hK0
  clear hK0
  refine (short_walk k m a b c s (w.heap.size + 1) _ (alloc_new' (by simp))).mono ?_
  rintro e w1 ⟨⟨r, rfl⟩, k1⟩
  have KA : Keeps (fun _ => False) (w.alloc (.cells #[.int .i64 k, .int .i64 m, .int .i64 a, .int .i64 b, .int .i64 c, .string s] 28)) w1 := ((Keeps.refl _ _).alloc _).trans k1
  have HA := hid KA
  clear k1 KA
  cases r with
  | false =>
    go_wp2_with fail
    refine (callsIn_wide.1 (works40 w1)).mono ?_
    rintro e w2 ⟨rfl, k2⟩
    have K2' := hid ((((Keeps.refl (fun _ => False) w).alloc _).trans HA.out).trans k2)
    clear k2
    go_wp2_with fail
    go_ret
    exact ⟨rfl, K2'.out⟩
  | true =>
    go_wp2_with fail
    exact HK0.out _ _ (rest_ok (bs := [.int .i64 k, .int .i64 m, .int .i64 a, .int .i64 b, .int .i64 c, .string s]) (x := .int .i64 i) six rfl HA.out rfl rfl rfl rfl rfl)
#print axioms machineNil_walk
end Go.Proofs.YtblpckghfakmfaaGreatDoor
