/- estraylaw35.QuotaWhole: the walk. -/
import Derived.Test.YtmpfhfabmcpiaaaQlast
import Derived.Test.YtmpfhfabmcpiaaaOpen
namespace Go.Proofs.Ytmpfhfabmcpiaaa
open Go.RowKit Go.ChangeShapes Go.WideShapes

/-- what the law's counts say of the quota's cycle -/
def InvW (begun ended began over : Int) (c : Option Int) : Prop :=
  (began = -1 ∧ over = -1 ∧ c = none) ∨ (0 ≤ began ∧ c = some (begun - began + 1) ∧ ((began = 0 ∧ over = 0) ∨ (0 < began ∧ over = ended - (begun - began) ∧ 0 ≤ over)))

theorem InvW.is {bg en bn ov : Int} {c : Option Int} (h : InvW bg en bn ov c) : c.isSome = decide (0 ≤ bn) := by
  rcases h with ⟨rfl, rfl, rfl⟩ | ⟨h, rfl, _⟩
  · rfl
  · simp [h]

theorem InvW.begin_ {bg en bn ov : Int} {c : Option Int} (h : InvW bg en bn ov c) (he : bg = en) : InvW (bg + 1) en (if 0 ≤ bn then bn + 1 else bn) ov c := by
  rcases h with ⟨rfl, rfl, rfl⟩ | ⟨h, rfl, h2⟩
  · exact .inl ⟨rfl, rfl, rfl⟩
  · rw [if_pos h]
    exact .inr ⟨by omega, by congr 1; omega, .inr (by omega)⟩

theorem InvW.end_ {bg en bn ov : Int} {c : Option Int} (h : InvW bg en bn ov c) : InvW bg (en + 1) bn (if 0 < bn then ov + 1 else ov) c := by
  rcases h with ⟨rfl, rfl, rfl⟩ | ⟨h, rfl, h2⟩
  · exact .inl ⟨rfl, rfl, rfl⟩
  · by_cases h3 : 0 < bn
    · rw [if_pos h3]
      exact .inr ⟨by omega, rfl, .inr (by omega)⟩
    · rw [if_neg h3]
      exact .inr ⟨by omega, rfl, .inl (by omega)⟩

theorem InvW.no (bg en : Int) : InvW bg en (-1) (-1) none := .inl ⟨rfl, rfl, rfl⟩

theorem hit_is (b : Nat) (m : Int) (c : Option Int) (w : World) (h : QtAt w b m c) (hm : 0 < m) :
    Calls Try.prog 12 #[.pointer (some ⟨b, 0, none⟩)] w fun e w' => e = .returned (.tuple #[.int .i64 (c.getD 0), .bool c.isSome]) ∧ w' = w := by
  refine (hit_ok b m c w h hm).mono ?_
  rintro e w' ⟨rfl, rfl⟩
  cases c <;> exact ⟨rfl, rfl⟩

set_option maxRecDepth 100000 in
set_option maxHeartbeats 8000000 in
theorem quotaWhole_core (a : Int) (a0 : 0 ≤ a) (a1 : a ≤ 255) (p : Option Addr) (len cap : Nat) (w : World) (hlc : len ≤ cap) (hcm : cap ≤ maxLen)
    (hsl : len = 0 ∨ ∃ b off, p = some ⟨b, off, none⟩ ∧ b < w.heap.size ∧ ∀ i, i < len → CellsAt w b (off + i * 2) [.int .u8, .int .u8]) :
    Calls Try.prog 3 #[.int .u8 a, .slice p len cap] w fun e w' => e = .returned (.bool true) ∧ Keeps (fun _ => False) w w' := by
  have HSL := hid hsl; clear hsl
  unfold maxLen at hcm
  go_enter Try.func3, Try.ntmps3
  go_wp2_with fail
  refine (new_ok (1 + a) w (by omega) (by omega)).mono ?_
  rintro e w1 ⟨rfl, hk1, hq⟩
  have HQ := hid hq
  have HK := hid (hk1.mono (T := (· = w.heap.size)) (fun _ _ h => h.elim))
  clear hk1 hq
  go_upto_region 7 with (fail)
  go_cut [33, 34, 35] (fun s33 s34 s35 wx => ∃ n : Nat, n ≤ len ∧ n ≤ 200 ∧ s33 = .slice p n cap ∧ s34 = .int .i64 n ∧ s35 = .int .i64 0 ∧ w1 = wx)
  case first =>
    by_cases hl : (len : Int) ≤ 200
    · go_wp2_with fail
      go_meet
      exact ⟨len, Nat.le_refl _, by omega, by simp, by simp, rfl, rfl⟩
    · go_wp2_with fail
      go_meet
      exact ⟨200, by omega, by omega, by simp, by simp, rfl, rfl⟩
  case rest =>
    obtain ⟨n, hn1, hn2, rfl, rfl, rfl, rfl⟩ := hcut
    go_wp2_with fail
    go_loopw [8, 9, 10, 11, 35] (fun s8 s9 s10 s11 s35 wr => ∃ (k : Nat) (bg en bn ov : Int) (c : Option Int), k ≤ n ∧ 0 ≤ en ∧ en ≤ k ∧ en ≤ bg ∧ bg ≤ en + 1 ∧ -1 ≤ bn ∧ bn ≤ k ∧ -1 ≤ ov ∧ ov ≤ k ∧ s35 = .int .i64 k ∧ s8 = .int .i64 bg ∧ s9 = .int .i64 en ∧ s10 = .int .i64 bn ∧ s11 = .int .i64 ov ∧
        Hid (InvW bg en bn ov c) ∧ Hid (QtAt wr w.heap.size (1 + a) c) ∧ Hid (Keeps (· = w.heap.size) w wr)) (fun _ _ _ _ s35 _ => n - (intOf s35).toNat)
    case atStart => exact ⟨0, 0, 0, -1, -1, none, by omega, by omega, by omega, by omega, by omega, by omega, by omega, by omega, by omega, rfl, rfl, rfl, rfl, rfl, .inl ⟨rfl, rfl, rfl⟩, HQ, HK⟩
    case round =>
      obtain ⟨k, bg, en, bn, ov, c, hk, e0, e1, e2, e3, n0, n1, o0, o1, rfl, rfl, rfl, rfl, rfl, HI, HQ', HK'⟩ := hrel
      clear HQ HK
      by_cases hlt : k < n
      · obtain ⟨b, off, rfl, hbl, hcell⟩ : ∃ b off, p = some ⟨b, off, none⟩ ∧ b < w.heap.size ∧ CellsAt wr b (off + k * 2) [.int .u8, .int .u8] := by
          rcases HSL.out with h | ⟨b, off, h1, h2, h3⟩
          · omega
          · exact ⟨b, off, h1, h2, (h3 k (by omega)).below (HK'.out.block b h2 (by omega))⟩
        obtain ⟨_, c0, kd, rfl, wkd⟩ := hcell 0 _ rfl
        obtain ⟨_, c1, us, rfl, wus⟩ := hcell 1 _ rfl
        obtain ⟨kd0, kd1⟩ := bounds_u8 wkd
        obtain ⟨us0, us1⟩ := bounds_u8 wus
        clear hcell wkd wus
        rw [Nat.add_zero] at c0
        go_upto_region 10 with (fail)
        go_cut [14, 35] (fun s14 s35 wx => ∃ u : Int, 0 ≤ u ∧ u ≤ 300 ∧ s14 = .int .i64 u ∧ s35 = .int .i64 k ∧ wr.alloc (.cells #[.int .u8 kd, .int .u8 us] 28) = wx)
        case first =>
          go_wp2_with fail
          all_goals
            go_meet
            exact ⟨_, by omega, by omega, rfl, rfl, rfl⟩
        case rest =>
          obtain ⟨u, u0, u1, rfl, rfl, rfl⟩ := hcut
          clear c0 c1 us0 us1
          have HQa := hid (HQ'.out.keeps ((Keeps.refl _ _).alloc (.cells #[.int .u8 kd, .int .u8 us] 28)))
          have HKa := hid (HK'.out.alloc (.cells #[.int .u8 kd, .int .u8 us] 28))
          clear HQ' HK'
          have his := HI.out.is
          rcases hk0 : (kd % 4 == 0) with _ | _
          · rcases hk1 : (kd % 4 == 1) with _ | _
            · have HX : Hid (∃ x c' bn' ov', askR (1 + a) u bg en c = (x, c') ∧ InvW bg en bn' ov' c' ∧ -1 ≤ bn' ∧ bn' ≤ k ∧ -1 ≤ ov' ∧ ov' ≤ k ∧ ((u < 1 + a ∧ x = 0 ∧ bn' = -1 ∧ ov' = -1) ∨ (1 + a ≤ u ∧ bn < 0 ∧ x = 13 ∧ bn' = 0 ∧ ov' = 0) ∨ (1 + a ≤ u ∧ 0 ≤ bn ∧ 0 < ov ∧ x = 12 ∧ bn' = bn ∧ ov' = ov) ∨ (1 + a ≤ u ∧ 0 ≤ bn ∧ ov ≤ 0 ∧ x = 13 ∧ bn' = bn ∧ ov' = ov))) := by
                by_cases hu : u < 1 + a
                · exact ⟨_, _, -1, -1, askR_under _ _ _ _ _ u0 hu e0 (by omega) (by omega), InvW.no _ _, by omega, by omega, by omega, by omega, .inl ⟨hu, rfl, rfl, rfl⟩⟩
                · rcases HI.out with ⟨rfl, rfl, rfl⟩ | ⟨h1, rfl, h2⟩
                  · exact ⟨_, _, 0, 0, askR_none _ _ _ _ u0 (by omega) e0 (by omega) (by omega), .inr ⟨by omega, by congr 1; omega, .inl ⟨rfl, rfl⟩⟩, by omega, by omega, by omega, by omega, .inr (.inl ⟨by omega, by omega, rfl, rfl, rfl⟩)⟩
                  · by_cases h3 : 0 < ov
                    · exact ⟨_, _, bn, ov, askR_late _ _ _ _ _ u0 (by omega) e0 (by omega) (by omega) (by omega), HI.out, n0, n1, o0, o1, .inr (.inr (.inl ⟨by omega, h1, h3, rfl, rfl, rfl⟩))⟩
                    · exact ⟨_, _, bn, ov, askR_early _ _ _ _ _ u0 (by omega) e0 (by omega) (by omega) (by omega), HI.out, n0, n1, o0, o1, .inr (.inr (.inr ⟨by omega, h1, by omega, rfl, rfl, rfl⟩))⟩
              obtain ⟨x, c', bn', ov', hx, hI', n0', n1', o0', o1', hcase⟩ := HX.out
              clear HX
              have his' := hI'.is
              have HX := hid hx; have HI' := hid hI'
              clear hx hI' his
              rcases hcase with ⟨q1, rfl, rfl, rfl⟩ | ⟨q1, q2, rfl, rfl, rfl⟩ | ⟨q1, q2, q3, rfl, rfl, rfl⟩ | ⟨q1, q2, q3, rfl, rfl, rfl⟩
              all_goals
                go_wp2_with fail
                refine (ask_step _ (1 + a) u bg en c _ c' _ HQa.out (by omega) HX.out).mono ?_
                rintro e w2 ⟨rfl, hk2, hq2⟩
                have HQ2 := hid hq2
                have HK2 := hid (HKa.out.trans hk2)
                clear hk2 hq2
                go_wp2_with fail
                refine (hit_is _ _ _ _ HQ2.out (by omega)).mono ?_
                rintro e w' ⟨rfl, h'⟩
                obtain rfl := h'.symm
                go_wp2_with fail
                exact ⟨⟨k + 1, bg, en, _, _, c', by omega, by omega, by omega, by omega, by omega, by omega, by omega, by omega, by omega, by go_num, rfl, rfl, rfl, rfl, HI', HQ2, HK2⟩, by simp [intOf]; omega⟩
            · have HX : Hid (∃ c' bn' ov', (if 0 ≤ u ∧ u < 1 + a then none else c) = c' ∧ InvW bg en bn' ov' c' ∧ -1 ≤ bn' ∧ bn' ≤ k ∧ -1 ≤ ov' ∧ ov' ≤ k ∧ ((u < 1 + a ∧ bn' = -1 ∧ ov' = -1) ∨ (1 + a ≤ u ∧ bn' = bn ∧ ov' = ov))) := by
                by_cases hu : u < 1 + a
                · exact ⟨_, -1, -1, if_pos ⟨u0, hu⟩, InvW.no _ _, by omega, by omega, by omega, by omega, .inl ⟨hu, rfl, rfl⟩⟩
                · exact ⟨_, bn, ov, if_neg (by omega), HI.out, n0, n1, o0, o1, .inr ⟨by omega, rfl, rfl⟩⟩
              obtain ⟨c', bn', ov', hx, hI', n0', n1', o0', o1', hcase⟩ := HX.out
              clear HX
              have his' := hI'.is
              have HX := hid hx; have HI' := hid hI'
              clear hx hI' his
              rcases hcase with ⟨q1, rfl, rfl⟩ | ⟨q1, rfl, rfl⟩
              all_goals
                go_wp2_with fail
                refine (eased_step _ (1 + a) u c c' _ HQa.out (by omega) HX.out).mono ?_
                rintro e w2 ⟨rfl, hk2, hq2⟩
                have HQ2 := hid hq2
                have HK2 := hid (HKa.out.trans hk2)
                clear hk2 hq2
                go_wp2_with fail
                refine (hit_is _ _ _ _ HQ2.out (by omega)).mono ?_
                rintro e w' ⟨rfl, h'⟩
                obtain rfl := h'.symm
                go_wp2_with fail
                exact ⟨⟨k + 1, bg, en, _, _, c', by omega, by omega, by omega, by omega, by omega, by omega, by omega, by omega, by omega, by go_num, rfl, rfl, rfl, rfl, HI', HQ2, HK2⟩, by simp [intOf]; omega⟩
          · rcases hbe : (bg == en) with _ | _
            · have hne : bg = en + 1 := by have : bg ≠ en := by simpa using hbe
                                           omega
              have HI' := hid HI.out.end_
              have HNE := hid hne; clear hne
              by_cases hb0 : 0 < bn
              all_goals
                go_wp2_with fail
                refine (hit_is _ _ _ _ HQa.out (by omega)).mono ?_
                rintro e w' ⟨rfl, h'⟩
                obtain rfl := h'.symm
                go_wp2_with fail
                have HNE' := HNE.out
                have HI2 := HI'.out
              · rw [if_pos hb0] at HI2
                exact ⟨⟨k + 1, bg, en + 1, bn, ov + 1, c, by omega, by omega, by omega, by omega, by omega, by omega, by omega, by omega, by omega, by go_num, rfl, rfl, rfl, rfl, HI2, HQa, HKa⟩, by simp [intOf]; omega⟩
              · rw [if_neg (by omega)] at HI2
                exact ⟨⟨k + 1, bg, en + 1, bn, ov, c, by omega, by omega, by omega, by omega, by omega, by omega, by omega, by omega, by omega, by go_num, rfl, rfl, rfl, rfl, HI2, HQa, HKa⟩, by simp [intOf]; omega⟩
            · have hne : bg = en := by simpa using hbe
              have HI' := hid (HI.out.begin_ hne)
              have HNE := hid hne; clear hne
              have hb1 : decide (0 ≤ bn + 1) = true := by simp; omega
              by_cases hb0 : 0 ≤ bn
              all_goals
                go_wp2_with fail
                refine (hit_is _ _ _ _ HQa.out (by omega)).mono ?_
                rintro e w' ⟨rfl, h'⟩
                obtain rfl := h'.symm
                go_wp2_with fail
                have HNE' := HNE.out
                have HI2 := HI'.out
              · rw [if_pos hb0] at HI2
                exact ⟨⟨k + 1, bg + 1, en, bn + 1, ov, c, by omega, by omega, by omega, by omega, by omega, by omega, by omega, by omega, by omega, by go_num, rfl, rfl, rfl, rfl, HI2, HQa, HKa⟩, by simp [intOf]; omega⟩
              · rw [if_neg (by omega)] at HI2
                exact ⟨⟨k + 1, bg + 1, en, bn, ov, c, by omega, by omega, by omega, by omega, by omega, by omega, by omega, by omega, by omega, by go_num, rfl, rfl, rfl, rfl, HI2, HQa, HKa⟩, by simp [intOf]; omega⟩
      · go_wp2_with fail
        refine (works_any _).mono ?_
        rintro e w6 ⟨rfl, hk6⟩
        have HK6 := hid hk6; clear hk6
        go_wp2
        go_ret
        exact ⟨rfl, (HK'.out.mono (fun x hx e => by omega)).trans HK6.out⟩

theorem quotaWhole_walk {H : Type} {enc : TypeId × Value → H} {r : Reach} {b0 : Nat} (a : Int) (ha : (Lit.int .u8 a).wf = true) (v : Value) (d : DataW H) (p : List MemPlace) {w : World} (hv : Value.okWide Try.prog w r b0 22 v)
    (h : DataW.Trod enc Try.prog w 0 (fun _ => true) true 22 v d p) (w' : World) (hw : w' = w) :
    Calls Try.prog 3 #[.int .u8 a, v] w' fun e w'' => e = .returned (.bool true) ∧ Keeps (fun _ => False) w' w'' := by
  subst hw
  obtain ⟨a0, a1⟩ := bounds_u8 ha
  obtain ⟨q, len, cap, rfl, h1, h2, h3⟩ := open_flat_slice (ks := [.int .u8, .int .u8]) Try.underlying22 (by kernel_rfl) (by kernel_rfl) (by decide) hv h
  exact quotaWhole_core a a0 a1 q len cap _ h1 h2 h3

end Go.Proofs.Ytmpfhfabmcpiaaa
