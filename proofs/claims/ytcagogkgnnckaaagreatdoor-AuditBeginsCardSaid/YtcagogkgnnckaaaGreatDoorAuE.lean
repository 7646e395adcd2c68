/- Package audit: Once and Ended, whole. -/
import Derived.Test.YtcagogkgnnckaaaGreatDoorAuC
import Derived.Shelf.Abstract
namespace Go.Proofs.YtcagogkgnnckaaaGreatDoor
open Go.RowKit
set_option linter.unusedVariables false
set_option linter.unusedSimpArgs false
theorem ansV_shape (c : Int) (r : Option Nat) : ∃ (x : Bool) (y z : Int), ansV c r = .tuple #[.bool x, .int .i64 y, .int .i64 z] := by
  unfold ansV ansR
  split
  · cases r <;> exact ⟨_, _, _, rfl⟩
  · exact ⟨_, _, _, rfl⟩
theorem AtRow.wf {w : World} {v : Value} {l : List At} (h : AtRow w v l) : ∀ a ∈ l, a.Wf := by
  obtain ⟨a, cap, _, _, _, h, _⟩ := h
  exact h
set_option maxRecDepth 100000 in
set_option maxHeartbeats 1000000 in
theorem aonce (v : Value) (l : List At) (w : World) (hv : AtRow w v l) : Calls Tryz.prog 8 #[v] w fun e w' => e = .returned (ansV (ckL l) (runs onceF (fun _ => false) l 0)) ∧ Keeps (fun _ => False) w w' := by
  have HV := hid hv
  clear hv
  have hmm := @run_makeMap Tryz.prog
  go_enter Tryz.func8, Tryz.ntmps8
  go_wp2_with fail
  have HI := hid (show OnceI (w.heap.size + 1) w.heap.size (fun _ => false) ((w.alloc (.map #[] 0)).alloc (.cells #[.map (some w.heap.size)] 52)) from ⟨alloc_new' (by simp), ⟨_, (OM.made w).keeps (Keeps.r (S := fun _ => False)) (fun h => h), fun _ => rfl⟩, by omega⟩)
  refine (afirst onceF (fun _ => false) 17 #[.pointer (some ⟨w.heap.size + 1, 0, none⟩)] v l _ (fun y => y = w.heap.size) (OnceI (w.heap.size + 1) w.heap.size) (enters_of Tryz.func17 (by kernel_rfl) rfl)
    (fun j a W hj _ hI hk => (once1 _ _ _ a (HV.out.wf a (List.mem_of_getElem? hj)) W hI).mono fun e W' ⟨h1, h2, h3⟩ => ⟨h1, fun _ => h2, h3⟩) (fun s W W' h hk => h.keeps hk)
    (fun W hk => HV.out.keeps (((Keeps.r (S := fun y => y = w.heap.size) (a := w)).trans hk)) (fun k hk h => by omega)) HI.out).mono ?_
  rintro e w1 ⟨rfl, k1⟩
  have K1 := hid (show Keeps (fun _ => False) w w1 from ((Keeps.r (a := w) (S := fun y => y = w.heap.size)).trans k1).mono fun y hy h => by omega)
  obtain ⟨x, y, z, hxyz⟩ := ansV_shape (ckL l) (runs onceF (fun _ => false) l 0)
  rw [hxyz]
  have HZ := hid hxyz
  clear k1 HI hxyz
  go_wp2_with fail
  go_ret3
  exact ⟨congrArg Ending.returned HZ.out.symm, K1.out⟩
set_option maxRecDepth 100000 in
set_option maxHeartbeats 1000000 in
theorem aended (v : Value) (l : List At) (w : World) (hv : AtRow w v l) : Calls Tryz.prog 9 #[v] w fun e w' => e = .returned (ansV (ckL l) (runs endF (fun _ => false) l 0)) ∧ Keeps (fun _ => False) w w' := by
  have HV := hid hv
  clear hv
  have hmm := @run_makeMap Tryz.prog
  go_enter Tryz.func9, Tryz.ntmps9
  go_wp2_with fail
  have HI := hid (show OnceI (w.heap.size + 1) w.heap.size (fun _ => false) ((w.alloc (.map #[] 0)).alloc (.cells #[.map (some w.heap.size)] 52)) from ⟨alloc_new' (by simp), ⟨_, (OM.made w).keeps (Keeps.r (S := fun _ => False)) (fun h => h), fun _ => rfl⟩, by omega⟩)
  refine (afirst endF (fun _ => false) 18 #[.pointer (some ⟨w.heap.size + 1, 0, none⟩)] v l _ (fun y => y = w.heap.size) (OnceI (w.heap.size + 1) w.heap.size) (enters_of Tryz.func18 (by kernel_rfl) rfl)
    (fun j a W hj _ hI hk => (ended1 _ _ _ a (HV.out.wf a (List.mem_of_getElem? hj)) W hI).mono fun e W' ⟨h1, h2, h3⟩ => ⟨h1, fun _ => h2, h3⟩) (fun s W W' h hk => h.keeps hk)
    (fun W hk => HV.out.keeps (((Keeps.r (S := fun y => y = w.heap.size) (a := w)).trans hk)) (fun k hk h => by omega)) HI.out).mono ?_
  rintro e w1 ⟨rfl, k1⟩
  have K1 := hid (show Keeps (fun _ => False) w w1 from ((Keeps.r (a := w) (S := fun y => y = w.heap.size)).trans k1).mono fun y hy h => by omega)
  obtain ⟨x, y, z, hxyz⟩ := ansV_shape (ckL l) (runs endF (fun _ => false) l 0)
  rw [hxyz]
  have HZ := hid hxyz
  clear k1 HI hxyz
  go_wp2_with fail
  go_ret3
  exact ⟨congrArg Ending.returned HZ.out.symm, K1.out⟩
end Go.Proofs.YtcagogkgnnckaaaGreatDoor
