/- RegistryNil of layer 38. -/
import Derived.Test.YthlphddehdjfjaaGreatDoorEwWr
namespace Go.Proofs.YthlphddehdjfjaaGreatDoor
open Go.RowKit Go.Proofs
set_option maxRecDepth 100000
theorem kn3_ok : KnOk Tryz.prog 1 (knT 5) := knT_ok ⟨Tryz.f5, _, rfl⟩ works38
noncomputable def rest3 : Code := match Tryz.f3.body with
  | some (.seq _ (.seq _ r)) => r
  | _ => .skip
def anyL : Nat → AV
  | 0 => .nil
  | n + 1 => .cons .any (anyL n)
theorem anyL_nth : ∀ (n k : Nat) (c : AV), (anyL n).nth k = some c → c = .any ∧ k < n
  | 0, k, c, h => by cases h
  | n + 1, 0, c, h => by cases h; exact ⟨rfl, by omega⟩
  | n + 1, k + 1, c, h => by
    have := anyL_nth n k c h
    exact ⟨this.1, by omega⟩
noncomputable def u26 : Tr AV := AV.tab (anyL 26) 40
noncomputable def st3 : St := ⟨En.put ⟨[], .e⟩ 1 (.p 1 0), (Tr.e : Tr AO).set 1 (.c 26 30 u26), 2, []⟩
noncomputable def isR (x : Option (XA × St)) : Bool := match x with
  | some (.ret, st) => (match st.tm.get 2, st.ms with
    | some (.b true), [] => true
    | _, _ => false)
  | _ => false
theorem rest_ev : isR (evC Tryz.prog 1 kp0 389 (knT 5) 100000 none 207 (kmA kp0 3) rest3 st3) = true := by kernel_rfl
theorem isR_ok {x : Option (XA × St)} (h : isR x = true) : ∃ st, x = some (.ret, st) ∧ st.tm.get 2 = some (.b true) ∧ st.ms = [] := by
  unfold isR at h
  split at h
  · rename_i st
    split at h
    · rename_i h1 h2
      exact ⟨st, rfl, h1, h2⟩
    · cases h
  · cases h
/-- the state behind the first question -/
theorem sr3 {w w1 : World} {a : Act} {bs : List Value} (hb : ∀ (j : Nat) (v : Value), bs[j]? = some v → v.oneCell' = true) (hl : bs.length = 26) (h : Keeps (fun _ => False) (w.alloc (.cells ⟨bs⟩ 30)) w1) (hs : a.tmps.size = 207)
    (h2 : a.tmps[1]? = some (.pointer (some ⟨w.heap.size, 0, none⟩))) (hd : a.defers = []) : ∃ ρ, SR 1 207 (kmA kp0 3) ρ st3 a w1 ∧ Im ρ st3.h.get = Im (ρ1.up 1 (w.heap.size, 0)) st3.h.get := by
  obtain ⟨l1, _⟩ := (lay1 w).alloc (o := .c 26 30 u26) (x := .cells ⟨bs⟩ 30) 0 (.c hl fun j c hc => by
    obtain ⟨rfl, hlt⟩ := anyL_nth 26 j c (tab_get 40 _ _ _ hc)
    have hj : bs[j]? = some bs[j] := List.getElem?_eq_getElem (by omega)
    exact ⟨bs[j], by simp [hj], hb j _ hj, .any (hb j _ hj)⟩)
  rw [← hup_set] at l1
  refine ⟨_, ⟨⟨hs, fun k c hc => ?_⟩, fun k _ => rfl, l1.same h, by rw [hd]; exact .nil⟩, rfl⟩
  replace hc : (En.put ⟨[], .e⟩ 1 (.p 1 0)).get k = some c := hc
  rw [En.get_put] at hc
  split at hc
  · rename_i e
    subst e
    cases hc
    exact ⟨_, h2, .p (Rn.up_same _ _ _)⟩
  · cases hc
theorem rest_ok {w w1 : World} {a : Act} {bs : List Value} (hb : ∀ (j : Nat) (v : Value), bs[j]? = some v → v.oneCell' = true) (hl : bs.length = 26) (h : Keeps (fun _ => False) (w.alloc (.cells ⟨bs⟩ 30)) w1) (hs : a.tmps.size = 207)
    (h2 : a.tmps[1]? = some (.pointer (some ⟨w.heap.size, 0, none⟩))) (hd : a.defers = []) :
    Code.wp Tryz.prog rest3 (bodyPost Tryz.prog Tryz.f3 fun e w' => e = .returned (.bool true) ∧ Keeps (fun _ => False) w w') a w1 := by
  obtain ⟨st', e1, e2, e3⟩ := isR_ok rest_ev
  obtain ⟨ρ, s4, him⟩ := sr3 hb hl h hs h2 hd
  refine wpIn_wide.1 (code_ok (drawn_ok mixed) kn3_ok clones 100000 none 207 (kmA kp0 3) rest3 st3 .ret st' e1 ρ none _ w1 trivial s4 _ ?_)
  intro ρ' a' w' s' n'
  have hd : a'.defers = [] := by
    have := s'.df
    rw [e3] at this
    generalize a'.defers = ds at this
    cases this
    rfl
  obtain ⟨v, f1, f2⟩ := s'.tr.2 2 _ e2
  cases f2
  refine ⟨hd, .bool true, ?_, rfl, ?_⟩
  · rw [results_tmp rfl]
    simp [Array.getD_eq_getD_getElem?, f1]
  · refine (((Keeps.refl (fun _ => False) w).alloc _).trans h).trans' n'.kp (fun _ _ h => h) fun b hb hi => ?_
    rw [him] at hi
    obtain ⟨j, o, C, g1, g2⟩ := hi
    exfalso
    by_cases hj : j = 1
    · subst hj
      rw [Rn.up_same] at g2
      cases g2
      exact Nat.lt_irrefl _ hb
    · have : (Tr.set (Tr.e : Tr AO) 1 (.c 26 30 u26)).get j = some o := g1
      rw [Tr.get_set, if_neg hj] at this
      cases this
theorem all_cells {bs : List Value} (h : bs.all (fun v => v.oneCell') = true) (j : Nat) (v : Value) (hv : bs[j]? = some v) : v.oneCell' = true := List.all_eq_true.1 h v (List.mem_of_getElem? hv)
theorem registryNil_walk (o mu st bu qu qt ba bs cp fi m kd ar mk d0 d1 d2 tk o0 o1 o2 o3 o4 : Int) (tg an ot : ByteArray) (w : World) :
    Calls Tryz.prog 3 #[.agg #[.int .i64 o, .int .i64 mu, .int .i64 st, .int .i64 bu, .int .i64 qu, .int .i64 qt, .int .i64 ba, .int .i64 bs, .int .i64 cp, .int .u32 fi, .int .i64 m, .int .i64 kd, .int .i64 ar, .int .i64 mk, .string tg, .string an, .int .i64 d0, .int .i64 d1, .int .u32 d2, .int .i64 tk, .int .i64 o0, .int .i64 o1, .int .i64 o2, .int .i64 o3, .int .i64 o4, .string ot]] w fun e w' => e = .returned (.bool true) ∧ Keeps (fun _ => False) w w' := by
  have HW := hid (fun W => callsIn_wide.1 (works38 W))
  by_cases h1 : (300 : Int) < (tg.size : Int)
  · go_enter Tryz.func3, Tryz.ntmps3
    go_wp2_with fail
    refine (HW.out _).mono ?_
    rintro e w1 ⟨rfl, k1⟩
    have K1 := hid k1
    clear k1
    go_wp2_with fail
    go_ret
    exact ⟨rfl, (Keeps.r (a := w)).trans K1.out⟩
  by_cases h2 : (300 : Int) < (an.size : Int)
  · go_enter Tryz.func3, Tryz.ntmps3
    go_wp2_with fail
    refine (HW.out _).mono ?_
    rintro e w1 ⟨rfl, k1⟩
    have K1 := hid k1
    clear k1
    go_wp2_with fail
    go_ret
    exact ⟨rfl, (Keeps.r (a := w)).trans K1.out⟩
  · go_enter Tryz.func3, Tryz.ntmps3
    show Code.wp Tryz.prog (.seq _ (.seq _ rest3)) _ _ _
    go_wp2_with fail
    exact rest_ok (bs := [.int .i64 o, .int .i64 mu, .int .i64 st, .int .i64 bu, .int .i64 qu, .int .i64 qt, .int .i64 ba, .int .i64 bs, .int .i64 cp, .int .u32 fi, .int .i64 m, .int .i64 kd, .int .i64 ar, .int .i64 mk, .string tg, .string an, .int .i64 d0, .int .i64 d1, .int .u32 d2, .int .i64 tk, .int .i64 o0, .int .i64 o1, .int .i64 o2, .int .i64 o3, .int .i64 o4, .string ot]) (all_cells rfl) rfl (Keeps.refl _ _) rfl rfl rfl
#print axioms registryNil_walk
end Go.Proofs.YthlphddehdjfjaaGreatDoor
