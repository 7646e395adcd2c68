/- Package audit: Once, Ended, Steady. -/
import Derived.Test.YtcagogkgnnckaaaGreatDoorAuF
namespace Go.Proofs.YtcagogkgnnckaaaGreatDoor
open Go.RowKit
set_option linter.unusedVariables false
set_option linter.unusedSimpArgs false

/-- a map of bools says s -/
def OMB (w : World) (m : Nat) (s : Ou → Bool) : Prop := ∃ f, OM w m f ∧ ∀ o, (f o).getD (.bool false) = .bool (s o)
theorem OMB.keeps {w w' : World} {m : Nat} {s : Ou → Bool} {S : Nat → Prop} (h : OMB w m s) (hk : Keeps S w w') (hS : ¬ S m) : OMB w' m s := by
  obtain ⟨f, h1, h2⟩ := h
  exact ⟨f, h1.keeps hk hS, h2⟩
theorem OMB.look {w : World} {m : Nat} {s : Ou → Bool} (h : OMB w m s) {o : Ou} (ho : o.Wf) : Sem.run Tryz.prog (Instr.lookup 52 (.map (some m)) (.agg #[.int .i64 o.1, .int .i64 o.2.1, .int .u32 o.2.2]) false) w = .ok (.bool (s o)) w := by
  obtain ⟨f, h1, h2⟩ := h
  have := h1.look Tryz.underlying52 (z := .bool false) (by kernel_rfl) ho false
  rw [h2] at this
  exact this
theorem OMB.set {w : World} {m : Nat} {s : Ou → Bool} (h : OMB w m s) {o : Ou} (ho : o.Wf) (b : Bool) :
    ∃ w', Sem.run Tryz.prog (Instr.mapUpdate 52 (.map (some m)) (.agg #[.int .i64 o.1, .int .i64 o.2.1, .int .u32 o.2.2]) (.bool b)) w = .ok () w' ∧ OMB w' m (fun x => if x = o then b else s x) ∧ Keeps (fun y => y = m) w w' := by
  obtain ⟨f, h1, h2⟩ := h
  obtain ⟨w', e1, e2, e3⟩ := h1.set Tryz.underlying52 ho (.bool b)
  refine ⟨w', e1, ⟨_, e2, fun x => ?_⟩, e3⟩
  by_cases e : x = o
  · simp [e]
  · simp [e, h2]
/-- what the questions keep: a cell with a map -/
def OnceI (c m : Nat) (s : Ou → Bool) (W : World) : Prop := W.heap[c]? = some (.cells #[.map (some m)] 52) ∧ OMB W m s ∧ c ≠ m
theorem OnceI.keeps {c m : Nat} {s : Ou → Bool} {W W' : World} (h : OnceI c m s W) (hk : Keeps (fun _ => False) W W') : OnceI c m s W' := ⟨block_keep h.1 hk (fun h => h), h.2.1.keeps hk (fun h => h), h.2.2⟩
theorem onceF_yes (s : Ou → Bool) {a : At} (hk : a.s = 1) : onceF s a = (!s a.o, fun x => if x = a.o then true else s x) := by
  unfold onceF
  rw [show (a.s == 1) = true by simp [hk], cond_true]
  congr 1
  funext x
  by_cases e : x = a.o <;> simp [e]
set_option maxRecDepth 100000 in
set_option maxHeartbeats 1000000 in
theorem once1 (c m : Nat) (s : Ou → Bool) (a : At) (ha : a.Wf) (W : World) (h : OnceI c m s W) :
    Calls Tryz.prog 17 #[a.val, .pointer (some ⟨c, 0, none⟩)] W fun e W' => e = .returned (.bool (onceF s a).1) ∧ OnceI c m (onceF s a).2 W' ∧ Keeps (fun y => y = m) W W' := by
  by_cases hk : a.s = 1
  · obtain ⟨t, ⟨k, i, g⟩, y, z⟩ := a
    dsimp only at hk
    subst hk
    have hI := h.keeps (show Keeps (fun _ => False) W (W.alloc (.cells #[.int .i64 t, .int .i64 k, .int .i64 i, .int .u32 g, .int .i64 y, .int .i64 1] 40)) from Keeps.r)
    have ho : Ou.Wf (k, i, g) := ⟨ha.k, ha.i, ha.g⟩
    have hl := hI.2.1.look ho
    obtain ⟨w2, hs, hm, k2⟩ := hI.2.1.set ho true
    have c0 := cell_at (i := 0) hI.1 rfl
    have f0 := frozen_block hI.1 0
    have hq := onceF_yes s (a := ⟨t, (k, i, g), y, 1⟩) rfl
    have HF := hid (show OnceI c m (onceF s ⟨t, (k, i, g), y, 1⟩).2 w2 ∧ Keeps (fun y => y = m) W w2 from ⟨⟨block_keep hI.1 k2 hI.2.2, by rw [hq]; exact hm, hI.2.2⟩, (Keeps.r (a := W)).trans k2⟩)
    rw [show (onceF s ⟨t, (k, i, g), y, 1⟩).1 = !s (k, i, g) by rw [hq]]
    unfold At.val
    clear hI ho hm k2 h hq ha
    go_enter Tryz.func17, Tryz.ntmps17
    go_wp2_with fail
    go_ret
    exact ⟨rfl, HF.out.1, HF.out.2⟩
  · rw [show onceF s a = (true, s) by unfold onceF; rw [show (a.s == 1) = false by simp [hk]]; rfl]
    have H := hid h
    unfold At.val
    clear h ha
    go_enter Tryz.func17, Tryz.ntmps17
    go_wp2_with fail
    go_ret
    exact ⟨rfl, H.out.keeps Keeps.r, Keeps.r⟩
theorem endF_is (s : Ou → Bool) (a : At) : endF s a = (!s a.o, fun x => if x = a.o then (s a.o || !(a.s == 2)) else s x) := rfl
set_option maxRecDepth 100000 in
set_option maxHeartbeats 1000000 in
theorem ended1 (c m : Nat) (s : Ou → Bool) (a : At) (ha : a.Wf) (W : World) (h : OnceI c m s W) :
    Calls Tryz.prog 18 #[a.val, .pointer (some ⟨c, 0, none⟩)] W fun e W' => e = .returned (.bool (endF s a).1) ∧ OnceI c m (endF s a).2 W' ∧ Keeps (fun y => y = m) W W' := by
  obtain ⟨t, ⟨k, i, g⟩, y, z⟩ := a
  have hI := h.keeps (show Keeps (fun _ => False) W (W.alloc (.cells #[.int .i64 t, .int .i64 k, .int .i64 i, .int .u32 g, .int .i64 y, .int .i64 z] 40)) from Keeps.r)
  have ho : Ou.Wf (k, i, g) := ⟨ha.k, ha.i, ha.g⟩
  have hl := hI.2.1.look ho
  obtain ⟨w2, hs, hm, k2⟩ := hI.2.1.set ho (s (k, i, g) || z != 2)
  have c0 := cell_at (i := 0) hI.1 rfl
  have f0 := frozen_block hI.1 0
  have HF := hid (show OnceI c m (endF s ⟨t, (k, i, g), y, z⟩).2 w2 ∧ Keeps (fun y => y = m) W w2 from ⟨⟨block_keep hI.1 k2 hI.2.2, hm, hI.2.2⟩, (Keeps.r (a := W)).trans k2⟩)
  rw [show (endF s ⟨t, (k, i, g), y, z⟩).1 = !s (k, i, g) from rfl]
  unfold At.val
  clear hI ho hm k2 h ha
  generalize hb : s (k, i, g) = b at hl hs ⊢
  clear hb
  cases b with
  | true =>
    rw [Bool.true_or] at hs
    go_enter Tryz.func18, Tryz.ntmps18
    go_wp2_with fail
    go_ret
    exact ⟨rfl, HF.out.1, HF.out.2⟩
  | false =>
    rw [Bool.false_or] at hs
    go_enter Tryz.func18, Tryz.ntmps18
    go_wp2_with fail
    go_ret
    exact ⟨rfl, HF.out.1, HF.out.2⟩
end Go.Proofs.YtcagogkgnnckaaaGreatDoor
