/- estraylaw25.SweepNil: the walk. -/
import Derived.Test.YtiopnedplnoleaaGreatSnA
import Derived.Test.YtiopnedplnoleaaGreatCgA
namespace Go.Proofs.YtiopnedplnoleaaGreat
open Go.RowKit Go.ChangeShapes Go.WideShapes Go.ChangeAt Go.Deep
set_option linter.unusedVariables false
set_option linter.unusedSimpArgs false

set_option maxRecDepth 100000 in
set_option maxHeartbeats 4000000 in
theorem sweepNil_walk (v : Value) (x y : Nat) (l mid : List Mv) (w : World) (hv : SetupAt w v x y l mid) :
    Calls Tryz.prog 7 #[v] w fun e w' => e = .returned (.bool true) ∧ Keeps (fun _ => False) w w' := by
  have HBG := hid (fun W (hk : Keeps (fun _ => False) w W) => begun25 v x y l mid W (hv.keeps0 hk))
  obtain ⟨hx, hy, v1, v2, rfl, _, _⟩ := hv
  go_enter Tryz.func7, Tryz.ntmps7
  go_wp2_with fail
  refine (HBG.out _ ((Keeps.refl _ _).alloc _)).mono ?_
  rintro e w1 ⟨a, m, b, LA, LM, w0, rfl, k0, ht⟩
  have HK0 := hid (show Keeps (fun _ => False) w w0 from ((Keeps.refl _ _).alloc _).trans k0)
  obtain ⟨s, hs⟩ : ∃ s, Sys.made (1 + x % 24) (1 + y % 2) l mid = s := ⟨_, rfl⟩
  obtain ⟨S, hS⟩ : ∃ S : Sw, (⟨1 + x % 24, 0, 0⟩ : Sw) = S := ⟨_, rfl⟩
  have hSn : S.next = 0 := by rw [← hS]
  rw [hs, hS] at ht
  have HT := hid ht
  clear k0 ht hs hS HBG
  go_wp2_with fail
  obtain ⟨w3, hw3⟩ : ∃ w3, (w1.alloc (.cells #[.int .i64 0, .int .i64 0, .int .i64 0] 89)).alloc (.cells #[.pointer none, .pointer (some ⟨w1.heap.size, 0, none⟩)] 63) = w3 := ⟨_, rfl⟩
  have k3 : Keeps (fun _ => False) w1 w3 := by rw [← hw3]; exact ((Keeps.refl _ _).alloc _).alloc _
  have p3 : w3.heap[w1.heap.size]? = some (.cells #[.int .i64 0, .int .i64 0, .int .i64 0] 89) := by rw [← hw3]; exact alloc_old alloc_new
  have q3 : w3.heap[w1.heap.size + 1]? = some (.cells #[.pointer none, .pointer (some ⟨w1.heap.size, 0, none⟩)] 63) := by rw [← hw3]; exact alloc_new' (by simp)
  rw [hw3]
  have HT3 := hid (HT.out.same k3)
  have HP3 := hid p3; have HQ3 := hid q3
  clear hw3 k3 p3 q3 HT
  go_loopw [35] (fun ix wr => ∃ j : Nat, j ≤ 2 ∧ ix = .int .i64 j ∧ Keeps (fun _ => False) w3 wr) (fun ix _ => 2 - (intOf ix).toNat)
  case atStart => exact ⟨0, by omega, rfl, Keeps.refl _ _⟩
  case round =>
    obtain ⟨j, hj, rfl, hkr⟩ := hrel
    by_cases hlt : j < 2
    · obtain ⟨u, hu, hn⟩ : ∃ u, wr.cell? ⟨w1.heap.size + 1, j, none⟩ = some u ∧ NoS wr u := by
        have hb := block_keep HQ3.out hkr (fun h => h)
        match j, hlt with
        | 0, _ => exact ⟨_, cell_at hb rfl, .inl rfl⟩
        | 1, _ => exact ⟨_, cell_at hb rfl, .inr ⟨_, rfl, block_keep HP3.out hkr (fun h => h)⟩⟩
      have HKR := hid hkr
      have HTR := hid (HT3.out.same hkr)
      have HN := hid (fun (W : World) (hk : Keeps (fun _ => False) wr W) => hn.keeps0 hk)
      have hlt' : (j : Int) < 2 := by omega
      have hj0 : (0 : Int) ≤ j := by omega
      clear hkr hn
      go_wp2_with fail
      refine (step_nos HTR.out (HN.out _ (Keeps.refl _ _))).mono ?_
      rintro e w4 ⟨rfl, k4⟩
      have HK4 := hid k4
      have HN4 := hid (fun (W : World) (hk : Keeps (fun _ => False) (w4.alloc (.cells #[.int .i64 0, .int .u32 0] 37)) W) => HN.out W (HK4.out.trans (((Keeps.refl _ _).alloc _).trans hk)))
      clear k4
      go_wp2_with fail
      refine ((ns_begin u _ (HN4.out _ (Keeps.refl _ _)))).mono ?_
      rintro e w' ⟨rfl, h'⟩
      obtain rfl := h'.symm
      go_wp2_with fail
      refine (ns_done u _ (HN4.out _ (Keeps.refl _ _))).mono ?_
      rintro e w5 ⟨rfl, k5⟩
      have HK5 := hid k5
      clear k5
      go_wp2_with fail
      refine ((ns_at u _ (HN4.out _ HK5.out))).mono ?_
      rintro e w' ⟨rfl, h'⟩
      obtain rfl := h'.symm
      go_wp2_with fail
      refine ((ns_freed u _ (HN4.out _ HK5.out))).mono ?_
      rintro e w' ⟨rfl, h'⟩
      obtain rfl := h'.symm
      go_wp2_with fail
      refine ((ns_copy u _ (HN4.out _ HK5.out))).mono ?_
      rintro e w' ⟨rfl, h'⟩
      obtain rfl := h'.symm
      go_wp2_with fail
      refine ⟨⟨j + 1, by omega, by go_num, ?_⟩, by simp [intOf]; omega⟩
      exact (HKR.out.trans (HK4.out.alloc _)).trans HK5.out
    · have hlt' : ¬ (j : Int) < 2 := by omega
      obtain ⟨wo, rfl⟩ : ∃ wo : World, wo = wr := ⟨_, rfl⟩
      have HTO := hid (HT3.out.same hkr)
      clear hkr HT3 HP3 HQ3 hlt
      go_wp2_with fail
      clear hlt'
      go_loopw [82] (fun ix wr => ∃ j : Nat, j ≤ 4 ∧ ix = .int .i64 j ∧ Keeps (fun _ => False) wo wr) (fun ix _ => 4 - (intOf ix).toNat)
      case atStart => exact ⟨0, by omega, rfl, Keeps.refl _ _⟩
      case round =>
        obtain ⟨i, hi, rfl, hkr⟩ := hrel
        have HKR := hid hkr
        have HTR := hid (HTO.out.same hkr)
        clear hkr
        by_cases hlt : i < 4
        · have HAT := hid (fun W (h : SwAt W b S) => show Calls Tryz.prog 38 #[.pointer (some ⟨b, 0, none⟩)] W (fun e w' => e = .returned (.int .i64 0) ∧ w' = W) from by
            have := swat_ok b S W h; rwa [hSn] at this)
          have h4 : i = 0 ∨ i = 1 ∨ i = 2 ∨ i = 3 := by omega
          clear hlt hi
          rcases h4 with rfl | rfl | rfl | rfl
          ·   go_wp2_with fail
              refine (step_noa HTR.out (.inl rfl)).mono ?_
              rintro e w4 ⟨rfl, k4⟩
              have HK4 := hid k4
              have HT4 := hid (HTR.out.same (Keeps.trans (by exact (by repeat (first | exact Keeps.refl _ _ | apply Keeps.alloc | apply Keeps.drewN | apply Keeps.drew))) (k4.alloc (.cells #[.int .i64 0, .int .u32 0] 37))))
              clear k4
              go_wp2_with fail
              refine ((HAT.out _ HT4.out.sw)).mono ?_
              rintro e w' ⟨rfl, h'⟩
              obtain rfl := h'.symm
              go_wp2_with fail
              refine ⟨⟨1, by omega, by go_num, ?_⟩, by simp [intOf]⟩
              exact (HKR.out.trans (by repeat (first | exact Keeps.refl _ _ | apply Keeps.alloc | apply Keeps.drewN | apply Keeps.drew))).trans (HK4.out.alloc _)
          ·   go_wp2_with fail
              refine (step_noa (HTR.out.same ((Keeps.refl _ _).alloc _)) (.inr ⟨_, rfl, alloc_new⟩)).mono ?_
              rintro e w4 ⟨rfl, k4⟩
              have HK4 := hid k4
              have HT4 := hid (HTR.out.same (Keeps.trans (by exact (by repeat (first | exact Keeps.refl _ _ | apply Keeps.alloc | apply Keeps.drewN | apply Keeps.drew))) (k4.alloc (.cells #[.int .i64 0, .int .u32 0] 37))))
              clear k4
              go_wp2_with fail
              refine ((HAT.out _ HT4.out.sw)).mono ?_
              rintro e w' ⟨rfl, h'⟩
              obtain rfl := h'.symm
              go_wp2_with fail
              refine ⟨⟨2, by omega, by go_num, ?_⟩, by simp [intOf]⟩
              exact (HKR.out.trans (by repeat (first | exact Keeps.refl _ _ | apply Keeps.alloc | apply Keeps.drewN | apply Keeps.drew))).trans (HK4.out.alloc _)
          ·   go_wp2_with fail
              refine (step_nom HTR.out (.inl rfl)).mono ?_
              rintro e w4 ⟨rfl, k4⟩
              have HK4 := hid k4
              have HT4 := hid (HTR.out.same (Keeps.trans (by exact (by repeat (first | exact Keeps.refl _ _ | apply Keeps.alloc | apply Keeps.drewN | apply Keeps.drew))) (k4.alloc (.cells #[.int .i64 0, .int .u32 0] 37))))
              clear k4
              go_wp2_with fail
              refine ((HAT.out _ HT4.out.sw)).mono ?_
              rintro e w' ⟨rfl, h'⟩
              obtain rfl := h'.symm
              go_wp2_with fail
              refine ⟨⟨3, by omega, by go_num, ?_⟩, by simp [intOf]⟩
              exact (HKR.out.trans (by repeat (first | exact Keeps.refl _ _ | apply Keeps.alloc | apply Keeps.drewN | apply Keeps.drew))).trans (HK4.out.alloc _)
          ·   go_wp2_with fail
              refine (step_nom (HTR.out.same ((Keeps.refl _ _).alloc _)) (.inr ⟨_, rfl, alloc_new⟩)).mono ?_
              rintro e w4 ⟨rfl, k4⟩
              have HK4 := hid k4
              have HT4 := hid (HTR.out.same (Keeps.trans (by exact (by repeat (first | exact Keeps.refl _ _ | apply Keeps.alloc | apply Keeps.drewN | apply Keeps.drew))) (k4.alloc (.cells #[.int .i64 0, .int .u32 0] 37))))
              clear k4
              go_wp2_with fail
              refine ((HAT.out _ HT4.out.sw)).mono ?_
              rintro e w' ⟨rfl, h'⟩
              obtain rfl := h'.symm
              go_wp2_with fail
              refine ⟨⟨4, by omega, by go_num, ?_⟩, by simp [intOf]⟩
              exact (HKR.out.trans (by repeat (first | exact Keeps.refl _ _ | apply Keeps.alloc | apply Keeps.drewN | apply Keeps.drew))).trans (HK4.out.alloc _)
        · obtain rfl : i = 4 := by omega
          have hlt' : ¬ ((4 : Nat) : Int) < 4 := by omega
          go_wp2_with fail
          refine (works25 _).mono ?_
          rintro e w9 ⟨rfl, k9⟩
          go_wp2_with fail
          go_ret
          exact ⟨rfl, (HK0.out.trans HTR.out.kp).trans k9⟩

set_option maxRecDepth 100000 in
theorem sweepNil_law {H : Type} {enc : TypeId × Value → H} {base : Nat} {spare : Nat → Bool} {held : Bool} {r : Reach} {b0 : Nat} (v : Value) (d : DataW H) (p : List MemPlace) {w : World} (hv : Value.okWide Tryz.prog w r b0 83 v)
    (h : DataW.Trod enc Tryz.prog w base spare held 83 v d p) (w' : World) (e' : w' = w) : Calls Tryz.prog 7 #[v] w' fun e w2 => e = .returned (.bool true) ∧ Keeps (fun _ => False) w' w2 := by
  subst e'
  obtain ⟨x, y, l, mid, hs⟩ := setup25_shape hv h
  exact sweepNil_walk v x y l mid w' hs

end Go.Proofs.YtiopnedplnoleaaGreat
