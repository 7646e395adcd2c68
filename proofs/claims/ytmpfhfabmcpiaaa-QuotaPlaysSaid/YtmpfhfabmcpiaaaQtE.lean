/- estraylaw35: 'works': the examples of the chapter hold. -/
import Derived.Test.YtmpfhfabmcpiaaaQtD
namespace Go.Proofs.Ytmpfhfabmcpiaaa
open Go.RowKit

/-- Ask of a quota that is there: the answer, and the cycle behind it -/
def askR (m u g n : Int) (c : Option Int) : Int × Option Int :=
  if u < 0 ∨ n < 0 ∨ 1099511627776 < n then (2, c) else if g ≠ n ∧ g ≠ n + 1 then (2, c) else (askV m u n c, askC m u g c)

theorem ask_step (b : Nat) (m u g n : Int) (c : Option Int) (x : Int) (c' : Option Int) (w : World) (h : QtAt w b m c) (hm : 0 < m) (hx : askR m u g n c = (x, c')) :
    Calls Try.prog 11 #[.pointer (some ⟨b, 0, none⟩), .int .i64 u, .int .i64 g, .int .i64 n] w fun e w' => e = .returned (.int .i64 x) ∧ Keeps (· = b) w w' ∧ QtAt w' b m c' := by
  unfold askR at hx
  by_cases h2 : u < 0 ∨ n < 0 ∨ 1099511627776 < n
  · rw [if_pos h2] at hx
    obtain ⟨rfl, rfl⟩ := Prod.mk.inj hx
    refine (ask_bad _ true u g n w (h.mk hm) 2 (by simp [first3V, bad2, h2]) (.inr rfl)).mono ?_
    rintro e w' ⟨rfl, hk⟩
    exact ⟨rfl, hk.mono (fun _ _ h => h.elim), h.keeps hk⟩
  rw [if_neg h2] at hx
  by_cases h3 : g ≠ n ∧ g ≠ n + 1
  · rw [if_pos h3] at hx
    obtain ⟨rfl, rfl⟩ := Prod.mk.inj hx
    refine (ask_bad _ true u g n w (h.mk hm) 2 (by simp [first3V, bad2, bad3, h2, h3]) (.inr rfl)).mono ?_
    rintro e w' ⟨rfl, hk⟩
    exact ⟨rfl, hk.mono (fun _ _ h => h.elim), h.keeps hk⟩
  rw [if_neg h3] at hx
  obtain ⟨rfl, rfl⟩ := Prod.mk.inj hx
  exact ask_ok b m u g n c w h hm (by simp [first3V, bad2, bad3, h2, h3])

theorem eased_step (b : Nat) (m u : Int) (c c' : Option Int) (w : World) (h : QtAt w b m c) (hm : 0 < m) (hx : (if 0 ≤ u ∧ u < m then none else c) = c') :
    Calls Try.prog 10 #[.pointer (some ⟨b, 0, none⟩), .int .i64 u] w fun e w' => e = .returned (.tuple #[]) ∧ Keeps (· = b) w w' ∧ QtAt w' b m c' := by
  by_cases h1 : 0 ≤ u
  · by_cases h2 : u < m
    · rw [if_pos ⟨h1, h2⟩] at hx; subst hx
      exact eased_in b m u c w h h1 h2
    · rw [if_neg (by omega)] at hx; subst hx
      refine (eased_out b m u c w h hm h2).mono ?_
      rintro e w' ⟨rfl, rfl⟩
      exact ⟨rfl, Keeps.refl _ _, h⟩
  · rw [if_neg (by omega)] at hx; subst hx
    refine (eased_same _ true u w (h.mk hm) (.inr (by omega))).mono ?_
    rintro e w' ⟨rfl, rfl⟩
    exact ⟨rfl, Keeps.refl _ _, h⟩

set_option maxRecDepth 100000 in
set_option maxHeartbeats 4000000 in
theorem works_any (w : World) : Calls Try.prog 13 #[] w fun e w' => e = .returned (.bool true) ∧ Keeps (fun _ => False) w w' := by
  go_enter Try.func13, Try.ntmps13
  go_wp2_with fail
  refine (new_ok 2 w (by omega) (by omega)).mono ?_
  rintro e w' ⟨rfl, hk, hq⟩
  have HK := hid (hk.mono (T := (· = w.heap.size)) (fun _ _ h => h.elim))
  have HQ := hid hq
  clear hk hq
  go_wp2_with fail
  refine (ask_step w.heap.size 2 1 0 0 none 0 none _ HQ.out (by decide) (by decide)).mono ?_
  rintro e w' ⟨rfl, hk, hq⟩
  have HK' := hid (HK.out.trans hk)
  have HQ' := hid hq
  clear hk hq HK HQ
  have HK := hid HK'.out; have HQ := hid HQ'.out; clear HK' HQ'
  go_wp2_with fail
  refine (ask_step w.heap.size 2 2 3 2 none 13 (some 4) _ HQ.out (by decide) (by decide)).mono ?_
  rintro e w' ⟨rfl, hk, hq⟩
  have HK' := hid (HK.out.trans hk)
  have HQ' := hid hq
  clear hk hq HK HQ
  have HK := hid HK'.out; have HQ := hid HQ'.out; clear HK' HQ'
  go_wp2_with fail
  refine (hit_ok w.heap.size 2 (some 4) _ HQ.out (by decide)).mono ?_
  rintro e w' ⟨rfl, rfl⟩
  simp only [hitV]
  go_wp2_with fail
  refine (ask_step w.heap.size 2 2 3 3 (some 4) 13 (some 4) _ HQ.out (by decide) (by decide)).mono ?_
  rintro e w' ⟨rfl, hk, hq⟩
  have HK' := hid (HK.out.trans hk)
  have HQ' := hid hq
  clear hk hq HK HQ
  have HK := hid HK'.out; have HQ := hid HQ'.out; clear HK' HQ'
  go_wp2_with fail
  refine (ask_step w.heap.size 2 3 4 3 (some 4) 13 (some 4) _ HQ.out (by decide) (by decide)).mono ?_
  rintro e w' ⟨rfl, hk, hq⟩
  have HK' := hid (HK.out.trans hk)
  have HQ' := hid hq
  clear hk hq HK HQ
  have HK := hid HK'.out; have HQ := hid HQ'.out; clear HK' HQ'
  go_wp2_with fail
  refine (ask_step w.heap.size 2 2 4 4 (some 4) 12 (some 4) _ HQ.out (by decide) (by decide)).mono ?_
  rintro e w' ⟨rfl, hk, hq⟩
  have HK' := hid (HK.out.trans hk)
  have HQ' := hid hq
  clear hk hq HK HQ
  have HK := hid HK'.out; have HQ := hid HQ'.out; clear HK' HQ'
  go_wp2_with fail
  refine (ask_step w.heap.size 2 2 9 8 (some 4) 12 (some 4) _ HQ.out (by decide) (by decide)).mono ?_
  rintro e w' ⟨rfl, hk, hq⟩
  have HK' := hid (HK.out.trans hk)
  have HQ' := hid hq
  clear hk hq HK HQ
  have HK := hid HK'.out; have HQ := hid HQ'.out; clear HK' HQ'
  go_wp2_with fail
  refine (ask_step w.heap.size 2 2 5 3 (some 4) 2 (some 4) _ HQ.out (by decide) (by decide)).mono ?_
  rintro e w' ⟨rfl, hk, hq⟩
  have HK' := hid (HK.out.trans hk)
  have HQ' := hid hq
  clear hk hq HK HQ
  have HK := hid HK'.out; have HQ := hid HQ'.out; clear HK' HQ'
  go_wp2_with fail
  refine (eased_step w.heap.size 2 2 (some 4) (some 4) _ HQ.out (by decide) (by decide)).mono ?_
  rintro e w' ⟨rfl, hk, hq⟩
  have HK' := hid (HK.out.trans hk)
  have HQ' := hid hq
  clear hk hq HK HQ
  have HK := hid HK'.out; have HQ := hid HQ'.out; clear HK' HQ'
  go_wp2_with fail
  refine (hit_ok w.heap.size 2 (some 4) _ HQ.out (by decide)).mono ?_
  rintro e w' ⟨rfl, rfl⟩
  simp only [hitV]
  go_wp2_with fail
  refine (eased_step w.heap.size 2 1 (some 4) none _ HQ.out (by decide) (by decide)).mono ?_
  rintro e w' ⟨rfl, hk, hq⟩
  have HK' := hid (HK.out.trans hk)
  have HQ' := hid hq
  clear hk hq HK HQ
  have HK := hid HK'.out; have HQ := hid HQ'.out; clear HK' HQ'
  go_wp2_with fail
  refine (hit_ok w.heap.size 2 none _ HQ.out (by decide)).mono ?_
  rintro e w' ⟨rfl, rfl⟩
  simp only [hitV]
  go_wp2_with fail
  refine (ask_step w.heap.size 2 2 9 9 none 13 (some 10) _ HQ.out (by decide) (by decide)).mono ?_
  rintro e w' ⟨rfl, hk, hq⟩
  have HK' := hid (HK.out.trans hk)
  have HQ' := hid hq
  clear hk hq HK HQ
  have HK := hid HK'.out; have HQ := hid HQ'.out; clear HK' HQ'
  go_wp2_with fail
  refine (ask_step w.heap.size 2 1 9 9 (some 10) 0 none _ HQ.out (by decide) (by decide)).mono ?_
  rintro e w' ⟨rfl, hk, hq⟩
  have HK' := hid (HK.out.trans hk)
  have HQ' := hid hq
  clear hk hq HK HQ
  have HK := hid HK'.out; have HQ := hid HQ'.out; clear HK' HQ'
  go_wp2
  go_ret
  exact ⟨rfl, HK.out.mono (fun x hx e => by omega)⟩

end Go.Proofs.Ytmpfhfabmcpiaaa
