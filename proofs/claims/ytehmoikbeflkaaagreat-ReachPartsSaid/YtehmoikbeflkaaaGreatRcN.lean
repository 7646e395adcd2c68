/- estraylaw19: the arena that is played; origins, child. -/
import Derived.Test.YtehmoikbeflkaaaGreatRcM
import Derived.Test.YtehmoikbeflkaaaGreatRcK
import Derived.Test.YtehmoikbeflkaaaGreatCgA
namespace Go.Proofs.YtehmoikbeflkaaaGreat
open Go.RowKit Go.ChangeShapes Go.WideShapes Go.ChangeAt Go.Deep
set_option linter.unusedVariables false
set_option linter.unusedSimpArgs false

set_option maxRecDepth 100000 in
set_option maxHeartbeats 1000000 in
theorem played19 (v : Value) (l : List Mv) (w : World) (hl : MvRow w v l) :
    Calls Tryz.prog 14 #[v] w fun e w' => ∃ a L, e = .returned (.pointer (some ⟨a, 0, none⟩)) ∧ Ay w.heap.size w w' a L (Sys.pl19 l).A := by
  obtain ⟨pa, cap, rfl, hcap, hmax, hx⟩ := hl
  have hn0 : (0 : Int) ≤ (l.length : Int) := by omega
  have hcap' : (l.length : Int) ≤ (cap : Int) := by omega
  obtain ⟨K, hK⟩ : ∃ K, min l.length 120 = K := ⟨_, rfl⟩
  have hmin : min (l.length : Int) 120 = (K : Int) := by omega
  have hK0 : (0 : Int) ≤ (K : Int) := by omega
  have hK1 : (K : Int) ≤ (l.length : Int) := by omega
  have hK2 : (K : Int) ≤ (cap : Int) := by omega
  have HX := hid hx; have HKE := hid hK
  clear hx hK
  go_enter Tryz.func14, Tryz.ntmps14
  go_wp2_with fail
  refine (Ay.new 40 2 w (by omega) (by omega) (by omega) (by omega)).mono ?_
  rintro e w1 ⟨a, L, rfl, h1⟩
  have HT := hid (show l.take K = l.take 120 by rw [← HKE.out]; rcases Nat.le_total l.length 120 with h | h; rw [Nat.min_eq_left h, List.take_of_length_le (Nat.le_refl _), List.take_of_length_le h]; rw [Nat.min_eq_right h])
  have H1 := hid (show Ay w.heap.size w w1 a L (moved (Sys.new 40 2) (l.take 0)).A from h1)
  clear h1
  go_wp2_with fail
  go_loopw [19] (fun ix wr => ∃ k : Nat, k ≤ K ∧ ix = .int .i64 k ∧ Hid (Ay w.heap.size w wr a L (moved (Sys.new 40 2) (l.take k)).A)) (fun ix _ => K - (intOf ix).toNat)
  case atStart => exact ⟨0, by omega, rfl, H1⟩
  case round =>
    clear H1
    obtain ⟨k, hk, rfl, HA⟩ := hrel
    have hk0 : (0 : Int) ≤ k := by omega
    by_cases hlt : k < K
    · have hkl : k < l.length := by omega
      obtain ⟨x, hxk⟩ : ∃ x, l[k]? = some x := ⟨_, List.getElem?_eq_getElem hkl⟩
      have hlt' : (k : Int) < (K : Int) := by omega
      obtain ⟨b, off, rfl, hb, hcl⟩ := HX.out.resolve_left (by intro h; rw [h] at hkl; simp at hkl)
      have hce := (hcl k x hxk).same (HA.out.k.block b hb (by omega))
      obtain ⟨hby, c0, c1, c2, c3, c4⟩ := hce
      have hbw : b < wr.heap.size := Nat.lt_of_lt_of_le hb HA.out.k.size
      have hgd : Good19 (moved (Sys.new 40 2) (l.take k)) := good19_new.moved _
      obtain ⟨s, hs⟩ : ∃ s, moved (Sys.new 40 2) (l.take k) = s := ⟨_, rfl⟩
      have hnx := moved_take hxk hgd
      rw [hs] at HA hgd hnx
      have HNX := hid hnx
      obtain ⟨wz, hwz⟩ : ∃ wz, wr.alloc (.cells #[.int .u8 x.kind, .int .u8 x.m, .int .u8 x.a, .int .u8 x.b, .int .u8 x.c] 123) = wz := ⟨_, rfl⟩
      have HM := hid (step19 x (HA.out.quiet (show Keeps (fun _ => False) wr wz by rw [← hwz]; exact (Keeps.refl _ _).alloc _)) hgd.many hby)
      unfold Mv.val at HM
      have HWZ := hid hwz
      clear hcl hxk hs hnx hgd hby hwz
      go_wp2_with fail
      rw [HWZ.out]
      refine HM.out.mono ?_
      rintro e w4 ⟨rfl, h4, _⟩
      rw [← HNX.out] at h4
      have H4 := hid h4
      clear h4 c0 c1 c2 c3 c4
      go_wp2_with fail
      exact ⟨⟨k + 1, by omega, by go_num, H4⟩, by simp [intOf]; omega⟩
    · obtain rfl : k = K := by omega
      have hlt' : ¬ (k : Int) < (k : Int) := by omega
      rw [HT.out] at HA
      go_wp2_with fail
      go_ret
      exact ⟨a, rfl, L, HA.out⟩
def ks19 : List Flat := [.int .u8, .int .u8, .int .u8, .int .u8, .int .u8]
theorem mvcell19_of {w : World} {b o : Nat} (h : CellsAt w b o ks19) : ∃ x, MvCell w b o x := by
  obtain ⟨_, h0, k0⟩ := h 0 _ rfl
  obtain ⟨_, h1, k1⟩ := h 1 _ rfl
  obtain ⟨_, h2, k2⟩ := h 2 _ rfl
  obtain ⟨_, h3, k3⟩ := h 3 _ rfl
  obtain ⟨_, h4, k4⟩ := h 4 _ rfl
  obtain ⟨a0, rfl, l0⟩ := byte_of k0
  obtain ⟨a1, rfl, l1⟩ := byte_of k1
  obtain ⟨a2, rfl, l2⟩ := byte_of k2
  obtain ⟨a3, rfl, l3⟩ := byte_of k3
  obtain ⟨a4, rfl, l4⟩ := byte_of k4
  exact ⟨⟨a0, a1, a2, a3, a4⟩, ⟨l0, l1, l2, l3, l4⟩, h0, h1, h2, h3, h4⟩
theorem mvrow19_of {w : World} {a : Option Addr} {len cap : Nat} (h1 : len ≤ cap) (h2 : cap ≤ maxLen) (h : len = 0 ∨ ∃ b off, a = some ⟨b, off, none⟩ ∧ b < w.heap.size ∧ ∀ i, i < len → CellsAt w b (off + i * ks19.length) ks19) :
    ∃ l, MvRow w (.slice a len cap) l := by
  rcases h with rfl | ⟨b, off, rfl, hb, hx⟩
  · exact ⟨[], a, cap, rfl, h1, h2, .inl rfl⟩
  · have hc : ∀ i : Nat, ∃ x, i < len → MvCell w b (off + i * 5) x := fun i => by
      by_cases hi : i < len
      · obtain ⟨x, hx⟩ := mvcell19_of (hx i hi); exact ⟨x, fun _ => hx⟩
      · exact ⟨⟨0, 0, 0, 0, 0⟩, fun h => absurd h hi⟩
    obtain ⟨f, hf⟩ := Classical.axiomOfChoice hc
    refine ⟨(List.range len).map f, _, cap, by simp, by simpa using h1, h2, .inr ⟨b, off, rfl, hb, fun i x hi => ?_⟩⟩
    rw [List.getElem?_map] at hi
    by_cases hl : i < len
    · rw [List.getElem?_range hl] at hi
      simp only [Option.map_some, Option.some.injEq] at hi
      subst hi
      exact hf i hl
    · rw [List.getElem?_eq_none (by simpa using hl)] at hi
      cases hi
end Go.Proofs.YtehmoikbeflkaaaGreat
