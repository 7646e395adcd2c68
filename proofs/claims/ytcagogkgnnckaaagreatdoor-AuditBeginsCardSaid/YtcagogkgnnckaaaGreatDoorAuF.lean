/- Package audit: the first attempt that is not right. -/
import Derived.Test.YtcagogkgnnckaaaGreatDoorAuW
namespace Go.Proofs.YtcagogkgnnckaaaGreatDoor
open Go.RowKit
set_option linter.unusedVariables false
set_option linter.unusedSimpArgs false

def ansR (r : Option Nat) : Value := match r with | none => .tuple #[.bool true, .int .i64 0, .int .i64 0] | some j => .tuple #[.bool false, .int .i64 j, .int .i64 0]
/-- what a question about a list of attempts answers -/
def ansV (c : Int) (r : Option Nat) : Value := if c = 0 then ansR r else .tuple #[.bool false, .int .i64 0, .int .i64 c]
set_option maxRecDepth 100000 in
set_option maxHeartbeats 1000000 in
theorem afirst {σ : Type} (f : σ → At → Bool × σ) (s0 : σ) (F : Nat) (caps : Array Value) (v : Value) (l : List At) (w : World) (S : Nat → Prop) (I : σ → World → Prop)
    (eg : ∀ args w, (callFunc F args).run Tryz.prog w = .ok (.enter F args) w)
    (hcall : ∀ (j : Nat) a W, l[j]? = some a → ckL l = 0 → I (sta f s0 (l.take j)) W → Keeps S w W → Calls Tryz.prog F (#[a.val] ++ caps) W fun e W' => e = .returned (.bool (f (sta f s0 (l.take j)) a).1) ∧ ((f (sta f s0 (l.take j)) a).1 = true → I (f (sta f s0 (l.take j)) a).2 W') ∧ Keeps S W W')
    (hI : ∀ s W W', I s W → Keeps (fun _ => False) W W' → I s W') (hv : ∀ W, Keeps S w W → AtRow W v l) (h0 : I s0 w) :
    Calls Tryz.prog 16 #[v, .func (.func F) #[] caps] w fun e w' => e = .returned (ansV (ckL l) (runs f s0 l 0)) ∧ Keeps S w w' := by
  have HK := hid (fun W h => acheck v l W (hv W h))
  obtain ⟨pa, cap, rfl, hcap, hmax, hwf, hx⟩ := hv w (Keeps.refl _ _)
  have HV := hid hv
  have HC := hid hcall
  have HI0 := hid hI
  have H0 := hid h0
  clear hcap hmax hwf hx hv hcall hI h0
  by_cases hc : ckL l = 0
  · have h1' : ¬ 10000 < (l.length : Int) := by
      intro h
      rw [show ckL l = 11 by unfold ckL; rw [if_pos (by omega)]] at hc
      cases hc
    have HCK := hid hc
    rw [hc] at HK
    have HN := hid (show ansV (ckL l) (runs f s0 l 0) = ansR (runs f s0 l 0) by unfold ansV; rw [if_pos hc])
    clear hc
    rw [HN.out]
    clear HN
    go_enter Tryz.func16, Tryz.ntmps16
    go_wp2_with fail
    refine (HK.out _ (Keeps.refl _ _)).mono ?_
    rintro e w1 ⟨rfl, k1⟩
    have K1 := hid k1
    clear k1 HK
    go_wp2_with fail
    go_loopw [17] (fun ix wr => ∃ i : Nat, i ≤ l.length ∧ ix = .int .i64 i ∧ Hid (runs f s0 (l.take i) 0 = none ∧ I (sta f s0 (l.take i)) wr ∧ Keeps S w wr)) (fun ix _ => l.length - (intOf ix).toNat)
    case atStart => exact ⟨0, Nat.zero_le _, rfl, hid ⟨rfl, HI0.out _ _ _ H0.out K1.out, K1.out.up⟩⟩
    case round =>
      obtain ⟨i, hi, rfl, HI⟩ := hrel
      have hi0 : (0 : Int) ≤ i := by omega
      by_cases hlt : i < l.length
      · obtain ⟨a, hy⟩ : ∃ y, l[i]? = some y := ⟨_, List.getElem?_eq_getElem hlt⟩
        have hlt' : (i : Int) < (l.length : Int) := by omega
        obtain ⟨pa', cap', e1, _, _, _, hx⟩ := HV.out wr HI.out.2.2
        cases e1
        obtain ⟨b, off, rfl, hb, hcl⟩ := hx.resolve_left (by intro h; rw [h] at hlt; simp at hlt)
        obtain ⟨c0, c1, c2, c3, c4, c5⟩ := hcl i a hy
        have HC2 := hid (fun W hk => HC.out i a W hy HCK.out (HI0.out _ _ W HI.out.2.1 hk) (HI.out.2.2.trans hk.up))
        unfold At.val at HC2
        have HY := hid hy
        clear hcl hy hx HC
        cases ha : (f (sta f s0 (l.take i)) a).1 with
        | false =>
          rw [ha] at HC2
          have HR := hid (show ansR (runs f s0 l 0) = .tuple #[.bool false, .int .i64 i, .int .i64 0] by rw [runs_bad f HY.out HI.out.1 ha]; rfl)
          clear ha
          go_wp2_with fail
          refine (HC2.out _ ((Keeps.refl _ _).alloc _)).mono ?_
          rintro e w2 ⟨rfl, _, k2⟩
          have K2 := hid k2
          clear k2
          go_wp2_with fail
          go_ret3
          exact ⟨congrArg Ending.returned HR.out.symm, (HI.out.2.2.trans ((Keeps.refl _ _).alloc _)).trans K2.out⟩
        | true =>
          rw [ha] at HC2
          obtain ⟨hr1, hr2⟩ := runs_good f HY.out HI.out.1 ha
          rw [← hr2] at HC2
          have HR := hid hr1
          clear hr1 hr2
          go_wp2_with fail
          refine (HC2.out _ ((Keeps.refl _ _).alloc _)).mono ?_
          rintro e w2 ⟨rfl, hi2, k2⟩
          have K2 := hid k2
          have HI2 := hid (hi2 trivial)
          clear k2 hi2
          go_wp2_with fail
          exact ⟨⟨i + 1, by omega, rfl, hid ⟨HR.out, HI2.out, (HI.out.2.2.trans ((Keeps.refl _ _).alloc _)).trans K2.out⟩⟩, by simp [intOf]; omega⟩
      · have hlt' : ¬ (i : Int) < (l.length : Int) := by omega
        have HR := hid (show ansR (runs f s0 l 0) = .tuple #[.bool true, .int .i64 0, .int .i64 0] by rw [runs_all f (by omega) HI.out.1]; rfl)
        go_wp2_with fail
        go_ret3
        exact ⟨congrArg Ending.returned HR.out.symm, HI.out.2.2⟩
  · have HA := hid (show ansV (ckL l) (runs f s0 l 0) = .tuple #[.bool false, .int .i64 0, .int .i64 (ckL l)] by unfold ansV; rw [if_neg hc])
    rw [HA.out]
    go_enter Tryz.func16, Tryz.ntmps16
    go_wp2_with fail
    refine (HK.out _ (Keeps.refl _ _)).mono ?_
    rintro e w1 ⟨rfl, k1⟩
    have K1 := hid k1
    clear k1
    go_wp2_with fail
    go_ret3
    exact ⟨rfl, K1.out.up⟩
end Go.Proofs.YtcagogkgnnckaaaGreatDoor
