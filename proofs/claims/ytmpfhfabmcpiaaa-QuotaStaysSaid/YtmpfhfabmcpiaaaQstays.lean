/- estraylaw35.QuotaStays: the walk. -/
import Derived.Test.YtmpfhfabmcpiaaaQlast
namespace Go.Proofs.Ytmpfhfabmcpiaaa
open Go.RowKit

/-- what QuotaStays calls bad -/
def badS (u g n : Int) : Bool := decide (u < 0) || decide (n < 0) || decide (1099511627776 < n) || ((g != n) && (decide (g < n) || (g - n != 1)))

theorem askR_bad (m u g n : Int) (c : Option Int) (x : Int) (c' : Option Int) (h : badS u g n = true) (hx : askR m u g n c = (x, c')) : (x == 2) = true ∧ c' = c := by
  unfold askR at hx
  by_cases h1 : u < 0 ∨ n < 0 ∨ 1099511627776 < n
  · rw [if_pos h1] at hx; obtain ⟨rfl, rfl⟩ := Prod.mk.inj hx; exact ⟨rfl, rfl⟩
  rw [if_neg h1] at hx
  by_cases h2 : g ≠ n ∧ g ≠ n + 1
  · rw [if_pos h2] at hx; obtain ⟨rfl, rfl⟩ := Prod.mk.inj hx; exact ⟨rfl, rfl⟩
  · exfalso
    simp [badS] at h
    omega

theorem askR_good (m u g n : Int) (c : Option Int) (x : Int) (c' : Option Int) (h : badS u g n = false) (hx : askR m u g n c = (x, c')) : (x == 2) = false := by
  unfold askR at hx
  have hb : ¬ (u < 0 ∨ n < 0 ∨ 1099511627776 < n) ∧ ¬ (g ≠ n ∧ g ≠ n + 1) := by
    simp [badS] at h
    omega
  rw [if_neg hb.1, if_neg hb.2] at hx
  obtain ⟨rfl, rfl⟩ := Prod.mk.inj hx
  unfold askV
  split
  · rfl
  · split
    · rfl
    · split <;> rfl

set_option maxRecDepth 100000 in
set_option maxHeartbeats 8000000 in
theorem quotaStays_false (a : Int) (a0 : 0 ≤ a) (a1 : a ≤ 255) (u : Int) (g : Int) (n : Int) (g1 : g ≤ 9223372036854775807) (w : World) :
    Calls Try.prog 8 #[.int .u8 a, .bool false, .int .i64 u, .int .i64 g, .int .i64 n] w fun e w' => e = .returned (.bool true) ∧ Keeps (fun _ => False) w w' := by
  obtain ⟨x, c', hx⟩ : ∃ x c', askR (1 + a) u g n none = (x, c') := ⟨_, _, rfl⟩
  have hbb : Hid (∀ b, badS u g n = b → (x == 2) = b ∧ (b = true → c' = none)) := by
    intro b hb
    cases b
    · exact ⟨askR_good _ _ _ _ _ _ _ hb hx, by simp⟩
    · obtain ⟨h1, h2⟩ := askR_bad _ _ _ _ _ _ _ hb hx
      exact ⟨h1, fun _ => h2⟩
  have HX := hid hx; clear hx
  obtain ⟨bad, hbad⟩ : ∃ bad, badS u g n = bad := ⟨_, rfl⟩
  have hx2 := (hbb.out bad hbad).1
  have HC := hid (hbb.out bad hbad).2
  have HBAD := hid hbad
  clear hbb hbad
  go_enter Try.func8, Try.ntmps8
  go_wp2_with fail
  refine (new_ok (1 + a) w (by omega) (by omega)).mono ?_
  rintro e w1 ⟨rfl, hk1, hq⟩
  have HQ := hid hq
  have HK := hid (hk1.mono (T := (· = w.heap.size)) (fun _ _ h => h.elim))
  have hl1 := hq.lt
  clear hk1 hq
  obtain ⟨w2, rfl⟩ : ∃ w2, w2 = w1 := ⟨_, rfl⟩
  have HQ2 := hid HQ.out; have HK2 := hid HK.out; have hl2 := hl1; clear HQ HK hl1
  go_wp2_with fail
  refine (copy_ok _ (1 + a) _ w2 HQ2.out (by omega)).mono ?_
  rintro e w3 ⟨rfl, hk3, hc3⟩
  have HQ3 := hid (HQ2.out.keeps hk3)
  have HK23 := hid (hk3.mono (T := fun y => w2.heap.size ≤ y) (fun _ _ h => h.elim))
  have HK3 := hid (HK2.out.trans (hk3.mono (fun _ _ h => h.elim)))
  have HC3 := hid hc3
  have hl3 := hc3.lt
  clear hk3 hc3 HK2
  go_wp2_with fail
  refine (most_ok _ _ _ _ HC3.out (by omega)).mono ?_
  rintro e w' ⟨rfl, h'⟩
  obtain rfl := h'.symm
  go_wp2_with fail
  refine (most_ok _ _ _ _ HQ3.out (by omega)).mono ?_
  rintro e w' ⟨rfl, h'⟩
  obtain rfl := h'.symm
  go_upto_region 8 with (fail)
  go_cut [15] (fun s15 wx => s15 = .bool bad ∧ w3 = wx)
  case first =>
    have HB := HBAD.out
    clear hx2 HBAD
    unfold badS at HB
    have HB' := hid HB; clear HB
    rcases hgn : (g != n) with _ | _
    all_goals
      go_wp2
      all_goals
        go_meet
        refine ⟨congrArg Value.bool ?_, rfl⟩
        rw [← HB'.out, hgn]
        first
          | rfl
          | (simp; done)
          | (simp; omega)
  case rest =>
    obtain ⟨rfl, rfl⟩ := hcut
    obtain ⟨c2, rfl, hcc⟩ : ∃ c2, c2 = c' ∧ (bad = true ∧ c2 = none ∨ bad = false) := ⟨_, rfl, by cases hb : bad <;> simp [HC.out, hb]⟩
    clear HC
    have HCC := hid hcc; clear hcc
    go_wp2_with fail
    refine (ask_step _ (1 + a) u g n _ x c2 _ HC3.out (by omega) HX.out).mono ?_
    rintro e w4 ⟨rfl, hk4, hc4⟩
    have HC4 := hid hc4
    have HK24 := hid (HK23.out.trans' hk4 (fun _ _ h => h) (by intro y _ h; show _ ≤ _; omega))
    have HQ4 := hid (HQ2.out.hi HK24.out (Nat.le_refl _))
    have HK4 := hid (HK3.out.trans' hk4 (U := fun y => y = w.heap.size ∨ y = w2.heap.size) (fun y _ h => .inl h) (fun y _ h => .inr h))
    clear hk4 hc4 HX HBAD HK3 HC3 HQ3
    obtain hz | ⟨hb, rfl⟩ | ⟨hb, k, rfl⟩ : (bad = true ∧ c2 = none) ∨ (bad = false ∧ c2 = none) ∨ (bad = false ∧ ∃ k, c2 = some k) := by
      rcases HCC.out with h | h
      · exact .inl h
      · rcases c2 with _ | k
        · exact .inr (.inl ⟨h, rfl⟩)
        · exact .inr (.inr ⟨h, k, rfl⟩)
    all_goals
      first
        | obtain ⟨rfl, rfl⟩ := hz
        | subst hb
      clear HCC
      go_wp2_with fail
      refine (hit_ok _ _ _ _ HC4.out (by omega)).mono ?_
      rintro e w' ⟨rfl, h'⟩
      obtain rfl := h'.symm
      simp only [hitV]
      go_wp2_with fail
      refine (hit_ok _ _ _ _ HQ4.out (by omega)).mono ?_
      rintro e w' ⟨rfl, h'⟩
      obtain rfl := h'.symm
      simp only [hitV]
      go_wp2_with fail
      refine (eased_step _ (1 + a) 0 _ none _ HC4.out (by omega) (if_pos (by omega))).mono ?_
      rintro e w5 ⟨rfl, hk5, hc5⟩
      have HC5 := hid hc5
      have HK25 := hid (HK24.out.trans' hk5 (fun _ _ h => h) (by intro y _ h; show _ ≤ _; omega))
      have HQ5 := hid (HQ2.out.hi HK25.out (Nat.le_refl _))
      have HK5 := hid (HK4.out.trans' hk5 (U := fun y => y = w.heap.size ∨ y = w2.heap.size) (fun y _ h => h) (fun y _ h => .inr h))
      clear hk5 hc5 HK4 HC4 HQ4
      go_wp2_with fail
      refine (hit_ok _ _ _ _ HC5.out (by omega)).mono ?_
      rintro e w' ⟨rfl, h'⟩
      obtain rfl := h'.symm
      simp only [hitV]
      go_wp2_with fail
      refine (hit_ok _ _ _ _ HQ5.out (by omega)).mono ?_
      rintro e w' ⟨rfl, h'⟩
      obtain rfl := h'.symm
      simp only [hitV]
      go_wp2_with fail
      refine (eased_step _ (1 + a) (1 + a) _ _ _ HQ5.out (by omega) (if_neg (by omega))).mono ?_
      rintro e w6 ⟨rfl, hk6, hq6⟩
      have HQ6 := hid hq6
      have HK6 := hid (HK5.out.trans' hk6 (U := fun y => y = w.heap.size ∨ y = w2.heap.size) (fun y _ h => h) (fun y _ h => .inl h))
      clear hk6 hq6 HK5 HQ5 HC5
      go_wp2_with fail
      refine (eased_step _ (1 + a) (-1) _ _ _ HQ6.out (by omega) (if_neg (by omega))).mono ?_
      rintro e w7 ⟨rfl, hk7, hq7⟩
      have HQ7 := hid hq7
      have HK7 := hid (HK6.out.trans' hk7 (U := fun y => y = w.heap.size ∨ y = w2.heap.size) (fun y _ h => h) (fun y _ h => .inl h))
      clear hk7 hq7 HK6 HQ6
      go_wp2_with fail
      refine (hit_ok _ _ _ _ HQ7.out (by omega)).mono ?_
      rintro e w' ⟨rfl, h'⟩
      obtain rfl := h'.symm
      simp only [hitV]
      go_wp2_with fail
      refine (works_any _).mono ?_
      rintro e w8 ⟨rfl, hk8⟩
      have HK8 := hid hk8; clear hk8
      go_wp2
      go_ret
      exact ⟨rfl, (HK7.out.mono (fun y hy h => by rcases h with h | h <;> omega)).trans HK8.out⟩

set_option maxRecDepth 100000 in
set_option maxHeartbeats 8000000 in
theorem quotaStays_true (a : Int) (a0 : 0 ≤ a) (a1 : a ≤ 255) (u : Int) (g : Int) (n : Int) (g1 : g ≤ 9223372036854775807) (w : World) :
    Calls Try.prog 8 #[.int .u8 a, .bool true, .int .i64 u, .int .i64 g, .int .i64 n] w fun e w' => e = .returned (.bool true) ∧ Keeps (fun _ => False) w w' := by
  obtain ⟨x, c', hx⟩ : ∃ x c', askR (1 + a) u g n (some 6) = (x, c') := ⟨_, _, rfl⟩
  have hbb : Hid (∀ b, badS u g n = b → (x == 2) = b ∧ (b = true → c' = (some 6))) := by
    intro b hb
    cases b
    · exact ⟨askR_good _ _ _ _ _ _ _ hb hx, by simp⟩
    · obtain ⟨h1, h2⟩ := askR_bad _ _ _ _ _ _ _ hb hx
      exact ⟨h1, fun _ => h2⟩
  have HX := hid hx; clear hx
  obtain ⟨bad, hbad⟩ : ∃ bad, badS u g n = bad := ⟨_, rfl⟩
  have hx2 := (hbb.out bad hbad).1
  have HC := hid (hbb.out bad hbad).2
  have HBAD := hid hbad
  clear hbb hbad
  go_enter Try.func8, Try.ntmps8
  go_wp2_with fail
  refine (new_ok (1 + a) w (by omega) (by omega)).mono ?_
  rintro e w1 ⟨rfl, hk1, hq⟩
  have HQ := hid hq
  have HK := hid (hk1.mono (T := (· = w.heap.size)) (fun _ _ h => h.elim))
  have hl1 := hq.lt
  clear hk1 hq
  go_wp2_with fail
  refine (ask_step _ (1 + a) (1 + a) 5 5 none 13 (some 6) _ HQ.out (by omega) (askR_none _ _ _ _ (by omega) (by omega) (by omega) (by omega) (by omega))).mono ?_
  rintro e w2 ⟨rfl, hk2, hq2⟩
  have HQ2 := hid hq2
  have HK2 := hid (HK.out.trans hk2)
  have hl2 := hq2.lt
  clear hk2 hq2 HK HQ hl1
  go_wp2_with fail
  refine (copy_ok _ (1 + a) _ w2 HQ2.out (by omega)).mono ?_
  rintro e w3 ⟨rfl, hk3, hc3⟩
  have HQ3 := hid (HQ2.out.keeps hk3)
  have HK23 := hid (hk3.mono (T := fun y => w2.heap.size ≤ y) (fun _ _ h => h.elim))
  have HK3 := hid (HK2.out.trans (hk3.mono (fun _ _ h => h.elim)))
  have HC3 := hid hc3
  have hl3 := hc3.lt
  clear hk3 hc3 HK2
  go_wp2_with fail
  refine (most_ok _ _ _ _ HC3.out (by omega)).mono ?_
  rintro e w' ⟨rfl, h'⟩
  obtain rfl := h'.symm
  go_wp2_with fail
  refine (most_ok _ _ _ _ HQ3.out (by omega)).mono ?_
  rintro e w' ⟨rfl, h'⟩
  obtain rfl := h'.symm
  go_upto_region 8 with (fail)
  go_cut [15] (fun s15 wx => s15 = .bool bad ∧ w3 = wx)
  case first =>
    have HB := HBAD.out
    clear hx2 HBAD
    unfold badS at HB
    have HB' := hid HB; clear HB
    rcases hgn : (g != n) with _ | _
    all_goals
      go_wp2
      all_goals
        go_meet
        refine ⟨congrArg Value.bool ?_, rfl⟩
        rw [← HB'.out, hgn]
        first
          | rfl
          | (simp; done)
          | (simp; omega)
  case rest =>
    obtain ⟨rfl, rfl⟩ := hcut
    obtain ⟨c2, rfl, hcc⟩ : ∃ c2, c2 = c' ∧ (bad = true ∧ c2 = (some 6) ∨ bad = false) := ⟨_, rfl, by cases hb : bad <;> simp [HC.out, hb]⟩
    clear HC
    have HCC := hid hcc; clear hcc
    go_wp2_with fail
    refine (ask_step _ (1 + a) u g n _ x c2 _ HC3.out (by omega) HX.out).mono ?_
    rintro e w4 ⟨rfl, hk4, hc4⟩
    have HC4 := hid hc4
    have HK24 := hid (HK23.out.trans' hk4 (fun _ _ h => h) (by intro y _ h; show _ ≤ _; omega))
    have HQ4 := hid (HQ2.out.hi HK24.out (Nat.le_refl _))
    have HK4 := hid (HK3.out.trans' hk4 (U := fun y => y = w.heap.size ∨ y = w2.heap.size) (fun y _ h => .inl h) (fun y _ h => .inr h))
    clear hk4 hc4 HX HBAD HK3 HC3 HQ3
    obtain hz | ⟨hb, rfl⟩ | ⟨hb, k, rfl⟩ : (bad = true ∧ c2 = (some 6)) ∨ (bad = false ∧ c2 = none) ∨ (bad = false ∧ ∃ k, c2 = some k) := by
      rcases HCC.out with h | h
      · exact .inl h
      · rcases c2 with _ | k
        · exact .inr (.inl ⟨h, rfl⟩)
        · exact .inr (.inr ⟨h, k, rfl⟩)
    all_goals
      first
        | obtain ⟨rfl, rfl⟩ := hz
        | subst hb
      clear HCC
      go_wp2_with fail
      refine (hit_ok _ _ _ _ HC4.out (by omega)).mono ?_
      rintro e w' ⟨rfl, h'⟩
      obtain rfl := h'.symm
      simp only [hitV]
      go_wp2_with fail
      refine (hit_ok _ _ _ _ HQ4.out (by omega)).mono ?_
      rintro e w' ⟨rfl, h'⟩
      obtain rfl := h'.symm
      simp only [hitV]
      go_wp2_with fail
      refine (eased_step _ (1 + a) 0 _ none _ HC4.out (by omega) (if_pos (by omega))).mono ?_
      rintro e w5 ⟨rfl, hk5, hc5⟩
      have HC5 := hid hc5
      have HK25 := hid (HK24.out.trans' hk5 (fun _ _ h => h) (by intro y _ h; show _ ≤ _; omega))
      have HQ5 := hid (HQ2.out.hi HK25.out (Nat.le_refl _))
      have HK5 := hid (HK4.out.trans' hk5 (U := fun y => y = w.heap.size ∨ y = w2.heap.size) (fun y _ h => h) (fun y _ h => .inr h))
      clear hk5 hc5 HK4 HC4 HQ4
      go_wp2_with fail
      refine (hit_ok _ _ _ _ HC5.out (by omega)).mono ?_
      rintro e w' ⟨rfl, h'⟩
      obtain rfl := h'.symm
      simp only [hitV]
      go_wp2_with fail
      refine (hit_ok _ _ _ _ HQ5.out (by omega)).mono ?_
      rintro e w' ⟨rfl, h'⟩
      obtain rfl := h'.symm
      simp only [hitV]
      go_wp2_with fail
      refine (eased_step _ (1 + a) (1 + a) _ _ _ HQ5.out (by omega) (if_neg (by omega))).mono ?_
      rintro e w6 ⟨rfl, hk6, hq6⟩
      have HQ6 := hid hq6
      have HK6 := hid (HK5.out.trans' hk6 (U := fun y => y = w.heap.size ∨ y = w2.heap.size) (fun y _ h => h) (fun y _ h => .inl h))
      clear hk6 hq6 HK5 HQ5 HC5
      go_wp2_with fail
      refine (eased_step _ (1 + a) (-1) _ _ _ HQ6.out (by omega) (if_neg (by omega))).mono ?_
      rintro e w7 ⟨rfl, hk7, hq7⟩
      have HQ7 := hid hq7
      have HK7 := hid (HK6.out.trans' hk7 (U := fun y => y = w.heap.size ∨ y = w2.heap.size) (fun y _ h => h) (fun y _ h => .inl h))
      clear hk7 hq7 HK6 HQ6
      go_wp2_with fail
      refine (hit_ok _ _ _ _ HQ7.out (by omega)).mono ?_
      rintro e w' ⟨rfl, h'⟩
      obtain rfl := h'.symm
      simp only [hitV]
      go_wp2_with fail
      refine (works_any _).mono ?_
      rintro e w8 ⟨rfl, hk8⟩
      have HK8 := hid hk8; clear hk8
      go_wp2
      go_ret
      exact ⟨rfl, (HK7.out.mono (fun y hy h => by rcases h with h | h <;> omega)).trans HK8.out⟩

theorem quotaStays_walk (a : Int) (ha : (Lit.int .u8 a).wf = true) (hit : Bool) (u : Int) (_ : (Lit.int .i64 u).wf = true) (g : Int) (hg : (Lit.int .i64 g).wf = true) (n : Int) (_ : (Lit.int .i64 n).wf = true) (w : World) :
    Calls Try.prog 8 #[.int .u8 a, .bool hit, .int .i64 u, .int .i64 g, .int .i64 n] w fun e w' => e = .returned (.bool true) ∧ Keeps (fun _ => False) w w' := by
  obtain ⟨a0, a1⟩ := bounds_u8 ha
  obtain ⟨_, g1⟩ := bounds_i64 hg
  cases hit
  · exact quotaStays_false a a0 a1 u g n g1 w
  · exact quotaStays_true a a0 a1 u g n g1 w

end Go.Proofs.Ytmpfhfabmcpiaaa
