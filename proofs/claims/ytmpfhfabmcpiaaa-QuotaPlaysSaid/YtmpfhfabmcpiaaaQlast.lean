/- estraylaw35.QuotaLast: the walk. -/
import Derived.Test.YtmpfhfabmcpiaaaQtE
namespace Go.Proofs.Ytmpfhfabmcpiaaa
open Go.RowKit

theorem askR_none (m u g n : Int) (h0 : 0 ≤ u) (hu : m ≤ u) (h1 : 0 ≤ n) (h2 : n ≤ 1099511627776) (h3 : g = n ∨ g = n + 1) : askR m u g n none = (13, some (g + 1)) := by
  unfold askR askV askC
  rw [if_neg (by omega), if_neg (by omega), if_neg (by omega), if_neg (by omega)]

theorem askR_late (m u g n k : Int) (h0 : 0 ≤ u) (hu : m ≤ u) (h1 : 0 ≤ n) (h2 : n ≤ 1099511627776) (h3 : g = n ∨ g = n + 1) (hk : ¬ n < k) : askR m u g n (some k) = (12, some k) := by
  unfold askR askV askC
  rw [if_neg (by omega), if_neg (by omega), if_neg (by omega), if_neg (by omega)]
  simp only [if_neg hk]

theorem askR_early (m u g n k : Int) (h0 : 0 ≤ u) (hu : m ≤ u) (h1 : 0 ≤ n) (h2 : n ≤ 1099511627776) (h3 : g = n ∨ g = n + 1) (hk : n < k) : askR m u g n (some k) = (13, some k) := by
  unfold askR askV askC
  rw [if_neg (by omega), if_neg (by omega), if_neg (by omega), if_neg (by omega)]
  simp only [if_pos hk]

theorem askR_under (m u g n : Int) (c : Option Int) (h0 : 0 ≤ u) (hu : u < m) (h1 : 0 ≤ n) (h2 : n ≤ 1099511627776) (h3 : g = n ∨ g = n + 1) : askR m u g n c = (0, none) := by
  unfold askR askV askC
  rw [if_neg (by omega), if_neg (by omega), if_pos (by omega), if_pos (by omega)]

set_option maxRecDepth 100000 in
set_option maxHeartbeats 4000000 in
theorem quotaLast_walk (a : Int) (ha : (Lit.int .u8 a).wf = true) (bg : Int) (hb : (Lit.int .u32 bg).wf = true) (busy : Bool) (mo : Int) (hm : (Lit.int .u8 mo).wf = true) (w : World) :
    Calls Try.prog 4 #[.int .u8 a, .int .u32 bg, .bool busy, .int .u8 mo] w fun e w' => e = .returned (.bool true) ∧ Keeps (fun _ => False) w w' := by
  obtain ⟨a0, a1⟩ := bounds_u8 ha
  obtain ⟨b0, b1⟩ := bounds_u32 hb
  obtain ⟨m0, m1⟩ := bounds_u8 hm
  clear ha hb hm
  cases busy
  all_goals
    go_enter Try.func4, Try.ntmps4
    go_wp2_with fail
    refine (new_ok (1 + a) w (by omega) (by omega)).mono ?_
    rintro e w1 ⟨rfl, hk1, hq⟩
    have HQ := hid hq
    have HK := hid (hk1.mono (T := (· = w.heap.size)) (fun _ _ h => h.elim))
    clear hk1 hq
    go_wp2_with fail
    refine (ask_step w.heap.size (1 + a) (1 + a) (1 + bg) _ none 13 (some (1 + bg + 1)) _ HQ.out (by omega) (askR_none _ _ _ _ (by omega) (by omega) (by omega) (by omega) (by omega))).mono ?_
    rintro e w2 ⟨rfl, hk2, hq2⟩
    have HQ2 := hid hq2
    have HK2 := hid (HK.out.trans hk2)
    clear hk2 hq2 HK HQ
    go_wp2_with fail
    refine (hit_ok _ _ _ _ HQ2.out (by omega)).mono ?_
    rintro e w' ⟨rfl, h'⟩
    obtain rfl := h'.symm
    simp only [hitV]
    go_wp2_with fail
    have r0 : 0 ≤ mo % 16 := by omega
    have r1 : mo % 16 ≤ 15 := by omega
    go_loopw [61] (fun i wr => ∃ k : Nat, (k : Int) ≤ mo % 16 + 3 ∧ i = .int .i64 k ∧ QtAt wr w.heap.size (1 + a) (some (1 + bg + 1)) ∧ Keeps (· = w.heap.size) w wr) (fun i _ => ((mo % 16 + 3) - intOf i).toNat)
    case atStart => exact ⟨0, by omega, rfl, HQ2.out, HK2.out⟩
    case round =>
      obtain ⟨k, hk, rfl, hq, hkk⟩ := hrel
      clear HQ2 HK2
      have HQ := hid hq; have HK := hid hkk; clear hq hkk
      by_cases hlt : (k : Int) < mo % 16 + 3
      · have hcase : ∀ en : Int, (en = 1 + bg ∨ en = 1 + bg - 1) → ∀ u g : Int, 1 + a ≤ u → (g = en + k ∨ g = en + k + 1) → askR (1 + a) u g (en + k) (some (1 + bg + 1)) = (if en + k < 1 + bg + 1 then 13 else 12, some (1 + bg + 1)) := by
          intro en hen u g hu hg
          by_cases h : en + k < 1 + bg + 1
          · rw [if_pos h]; exact askR_early _ _ _ _ _ (by omega) hu (by omega) (by omega) hg h
          · rw [if_neg h]; exact askR_late _ _ _ _ _ (by omega) hu (by omega) (by omega) hg h
        have HC := hid hcase; clear hcase
        go_wp2_with fail
        all_goals
          refine (ask_step w.heap.size (1 + a) (1 + a + k) _ _ (some (1 + bg + 1)) _ (some (1 + bg + 1)) _ HQ.out (by omega) (HC.out _ (by omega) _ _ (by omega) (by omega))).mono ?_
          rintro e w2 ⟨rfl, hk2, hq2⟩
          have HQ2 := hid hq2
          have HK2 := hid (HK.out.trans hk2)
          clear hk2 hq2
          go_wp2_with fail
          refine (ask_step w.heap.size (1 + a) (1 + a) _ _ (some (1 + bg + 1)) _ (some (1 + bg + 1)) _ HQ2.out (by omega) (HC.out _ (by omega) _ _ (by omega) (by omega))).mono ?_
          rintro e w3 ⟨rfl, hk3, hq3⟩
          have HQ3 := hid hq3
          have HK3 := hid (HK2.out.trans hk3)
          clear hk3 hq3
          go_wp2
          go_roundw
          case rel => exact ⟨k + 1, by omega, by go_num, HQ3.out, HK3.out⟩
          case measure => simp [intOf]; omega
      · go_wp2_with fail
        refine (works_any _).mono ?_
        rintro e w6 ⟨rfl, hk6⟩
        have HK6 := hid hk6; clear hk6
        go_wp2
        go_ret
        exact ⟨rfl, (HK.out.mono (fun x hx e => by omega)).trans HK6.out⟩

end Go.Proofs.Ytmpfhfabmcpiaaa
