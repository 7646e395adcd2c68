/- Package audit: Steady. -/
import Derived.Test.YtcagogkgnnckaaaGreatDoorAuE
namespace Go.Proofs.YtcagogkgnnckaaaGreatDoor
open Go.RowKit
set_option linter.unusedVariables false
set_option linter.unusedSimpArgs false

theorem drew_at {V : World} {b : Nat} {o : Option Obj} (h : V.heap[b]? = o) : V.drew.heap[b]? = o := h
theorem drewN_at {V : World} {b n : Nat} {o : Option Obj} (h : V.heap[b]? = o) : (V.drewN n).heap[b]? = o := h
theorem setB_at {V : World} {b m : Nat} {X : Obj} {o : Option Obj} (h : V.heap[b]? = o) (hb : b ≠ m) : (Go.ChangeMaps.setBlock V m X).heap[b]? = o := by
  rw [← h]; unfold Go.ChangeMaps.setBlock; simp [Array.getElem?_setIfInBounds, Ne.symm hb]
theorem setB2 {V : World} {b m : Nat} {X : Obj} {o : Option Obj} (hb : b ≠ m) (h : V.heap[b]? = o) : (Go.ChangeMaps.setBlock V m X).heap[b]? = o := setB_at h hb
theorem setO2 {w : World} {b : Nat} {a : Addr} {v : Value} {o : Obj} (hb : b ≠ a.block) (h : w.heap[b]? = some o) : (w.setCell a v).heap[b]? = some o := set_oth h hb
theorem stS {V : World} {c m B : Nat} {t k i g y z : Int} {tc : TypeId} (hc : V.heap[c]? = some (.cells #[.map (some m)] tc)) {tb : TypeId} (hB : V.heap[B]? = some (.cells #[.int .i64 t, .int .i64 k, .int .i64 i, .int .u32 g, .int .i64 y, .int .i64 z] tb)) :
    V.cell? ⟨c, 0, none⟩ = some (.map (some m)) ∧ V.cell? ⟨B, 0, none⟩ = some (.int .i64 t) ∧ V.cell? ⟨B, 1, none⟩ = some (.int .i64 k) ∧ V.cell? ⟨B, 2, none⟩ = some (.int .i64 i) ∧ V.cell? ⟨B, 3, none⟩ = some (.int .u32 g) ∧ V.cell? ⟨B, 4, none⟩ = some (.int .i64 y) :=
  ⟨cell_at hc rfl, cell_at hB rfl, cell_at hB rfl, cell_at hB rfl, cell_at hB rfl, cell_at hB rfl⟩
def SteadyI (c d m : Nat) (s : (Ou → Option Int) × Int) (W : World) : Prop := W.heap[c]? = some (.cells #[.map (some m)] 55) ∧ W.heap[d]? = some (.cells #[.int .i64 s.2] 2) ∧ (∃ f, OM W m f ∧ ∀ o, f o = (s.1 o).map (Value.int .i64)) ∧ c ≠ m ∧ d ≠ m ∧ c ≠ d
theorem setB_keeps {W : World} {m : Nat} {X : Obj} {S : Nat → Prop} (hm : S m) : Keeps S W (Go.ChangeMaps.setBlock W m X) := ⟨rfl, rfl, rfl, by simp [Go.ChangeMaps.setBlock], fun k _ hk => setB_at rfl (fun e => hk (by rw [e]; exact hm))⟩
set_option maxRecDepth 100000 in
set_option maxHeartbeats 1000000 in
theorem steady1 (c d m : Nat) (s : (Ou → Option Int) × Int) (a : At) (ha : a.Wf) (W : World) (h : SteadyI c d m s W) :
    Calls Tryz.prog 19 #[a.val, .pointer (some ⟨c, 0, none⟩), .pointer (some ⟨d, 0, none⟩)] W fun e W' => e = .returned (.bool (steadyF s a).1) ∧ ((steadyF s a).1 = true → SteadyI c d m (steadyF s a).2 W') ∧ Keeps (fun y => y = m ∨ y = d) W W' := by
  obtain ⟨t, ⟨k, i, g⟩, y, z⟩ := a
  obtain ⟨f, now⟩ := s
  obtain ⟨h1, h2, ⟨q, h3, h4⟩, n1, n2, n3⟩ := h
  dsimp only at h2 h4
  have k0 : Keeps (fun _ => False) W (W.alloc (.cells #[.int .i64 t, .int .i64 k, .int .i64 i, .int .u32 g, .int .i64 y, .int .i64 z] 40)) := Keeps.r
  have ho : Ou.Wf (k, i, g) := ⟨ha.k, ha.i, ha.g⟩
  have hl := (h3.keeps k0 (fun h => h)).look Tryz.underlying55 (z := .int .i64 0) (by kernel_rfl) ho true
  rw [h4] at hl
  unfold Ou.val at hl
  dsimp only at hl
  have c0 := cell_at (i := 0) (block_keep h1 k0 (fun h => h)) rfl
  have d0 := cell_at (i := 0) (block_keep h2 k0 (fun h => h)) rfl
  have f0 := frozen_block (block_keep h2 k0 (fun h => h)) 0
  unfold At.val
  by_cases hn : t < now
  · rw [show (steadyF (f, now) ⟨t, (k, i, g), y, z⟩).1 = false by simp [steadyF, hn]]
    cases hf : f (k, i, g) with
    | some y' =>
      rw [hf] at hl
      simp only [Option.map_some, Option.getD_some, Option.isSome_some, if_true] at hl
      clear h1 h2 h3 h4 ho ha k0
      go_enter Tryz.func19, Tryz.ntmps19
      go_wp2_with fail
      go_ret
      first | exact ⟨rfl, fun h => (by cases h), Keeps.r⟩ | exact ⟨rfl, Keeps.r⟩
    | none =>
      rw [hf] at hl
      simp only [Option.map_none, Option.getD_none, Option.isSome_none, if_true] at hl
      clear h1 h2 h3 h4 ho ha k0
      go_enter Tryz.func19, Tryz.ntmps19
      go_wp2_with fail
      go_ret
      first | exact ⟨rfl, fun h => (by cases h), Keeps.r⟩ | exact ⟨rfl, Keeps.r⟩
  · cases hf : f (k, i, g) with
    | some y' =>
      rw [hf] at hl
      simp only [Option.map_some, Option.getD_some, Option.isSome_some, if_true] at hl
      by_cases hy : y' = y
      · obtain rfl : y = y' := hy.symm
        rw [show steadyF (f, now) ⟨t, (k, i, g), y, z⟩ = (true, fun x => if x = (k, i, g) then some y else f x, t) by simp [steadyF, hn, hf]]
        clear hf
        obtain ⟨M, X, p1, p2, p3⟩ := (h3.keeps k0 (fun h => h)).put Tryz.underlying55 ho (.int .i64 y)
        unfold Ou.val at p2
        dsimp only at p2
        have b1 := block_keep h1 k0 (fun h => h)
        have b2 := block_keep h2 k0 (fun h => h)
        have b3 := alloc_new (w := W) (o := .cells #[.int .i64 t, .int .i64 k, .int .i64 i, .int .u32 g, .int .i64 y, .int .i64 z] 40)
        have l1 := lt_block h1
        have l2 := lt_block h2
        have l3 := h3.lt
        have q1 : W.heap.size ≠ m := by omega
        have q2 : W.heap.size ≠ d := by omega
        have r1 := p2 _ (drew_at p1)
        have r2 := p2 (World.setCell (World.drew (W.alloc (.cells #[.int .i64 t, .int .i64 k, .int .i64 i, .int .u32 g, .int .i64 y, .int .i64 z] 40))) ⟨d, 0, none⟩ (.int .i64 t)) (set_oth (drew_at p1) (Ne.symm n2))
        have b4 := setB_at (m := m) (X := X) (drew_at b2) n2
        have e0 := cell_at (i := 0) b4 rfl
        have e1 := frozen_block b4 0
        have HF := hid (show SteadyI c d m (fun x => if x = (k, i, g) then some y else f x, t) ((Go.ChangeMaps.setBlock (World.drew (W.alloc (.cells #[.int .i64 t, .int .i64 k, .int .i64 i, .int .u32 g, .int .i64 y, .int .i64 z] 40))) m X).setCell ⟨d, 0, none⟩ (.int .i64 t)) ∧
            Keeps (fun y => y = m ∨ y = d) W ((Go.ChangeMaps.setBlock (World.drew (W.alloc (.cells #[.int .i64 t, .int .i64 k, .int .i64 i, .int .u32 g, .int .i64 y, .int .i64 z] 40))) m X).setCell ⟨d, 0, none⟩ (.int .i64 t)) from
          ⟨⟨set_oth (setB_at (drew_at b1) n1) n3, set_block b4 0 _, ⟨_, (p3 _ (drew_at p1)).keeps ((Keeps.refl (fun y => y = d) _).setCell (p := ⟨d, 0, none⟩) (.inl rfl) (.int .i64 t)) (fun h => n2 h.symm), fun x => by
              by_cases e : x = (k, i, g)
              · simp [e]
              · simp [e, h4]⟩, n1, n2, n3⟩,
            (((Keeps.r (a := W) (S := fun y => y = m ∨ y = d)).drew).trans (setB_keeps (.inl rfl))).setCell (p := ⟨d, 0, none⟩) (.inl (.inr rfl)) _⟩)
        clear h1 h2 h3 h4 ho ha k0 p3 l1 l2 l3 p2 b4
        go_enter Tryz.func19, Tryz.ntmps19
        go_wp2_with fail
        go_region_held3 (fun V => V.cell? ⟨c, 0, none⟩ = some (.map (some m)) ∧ V.cell? ⟨W.heap.size, 0, none⟩ = some (.int .i64 t) ∧ V.cell? ⟨W.heap.size, 1, none⟩ = some (.int .i64 k) ∧ V.cell? ⟨W.heap.size, 2, none⟩ = some (.int .i64 i) ∧ V.cell? ⟨W.heap.size, 3, none⟩ = some (.int .u32 g) ∧ V.cell? ⟨W.heap.size, 4, none⟩ = some (.int .i64 y))
          ((refine stS (y := y) (z := z) (tc := 55) (tb := 40) ?_ ?_; all_goals (repeat (first | with_reducible assumption | with_reducible refine drew_at ?_ | with_reducible refine drewN_at ?_ | (with_reducible refine setO2 ?_ ?_; focus (first | assumption | (apply Ne.symm; assumption))) | (with_reducible refine setB2 ?_ ?_; focus (first | assumption | (apply Ne.symm; assumption))))))) (fail)
        all_goals
          go_wp2_with fail
          go_ret
          exact ⟨rfl, fun _ => HF.out.1, HF.out.2⟩
      · rw [show (steadyF (f, now) ⟨t, (k, i, g), y, z⟩).1 = false by simp [steadyF, hn, hf, show (y' == y) = false by simp [hy]]]
        clear h1 h2 h3 h4 ho ha k0 hf
        go_enter Tryz.func19, Tryz.ntmps19
        go_wp2_with fail
        go_ret
        first | exact ⟨rfl, fun h => (by cases h), Keeps.r⟩ | exact ⟨rfl, Keeps.r⟩
    | none =>
      rw [hf] at hl
      simp only [Option.map_none, Option.getD_none, Option.isSome_none, if_true] at hl
      rw [show steadyF (f, now) ⟨t, (k, i, g), y, z⟩ = (true, fun x => if x = (k, i, g) then some y else f x, t) by simp [steadyF, hn, hf]]
      clear hf
      obtain ⟨M, X, p1, p2, p3⟩ := (h3.keeps k0 (fun h => h)).put Tryz.underlying55 ho (.int .i64 y)
      unfold Ou.val at p2
      dsimp only at p2
      have b1 := block_keep h1 k0 (fun h => h)
      have b2 := block_keep h2 k0 (fun h => h)
      have b3 := alloc_new (w := W) (o := .cells #[.int .i64 t, .int .i64 k, .int .i64 i, .int .u32 g, .int .i64 y, .int .i64 z] 40)
      have l1 := lt_block h1
      have l2 := lt_block h2
      have l3 := h3.lt
      have q1 : W.heap.size ≠ m := by omega
      have q2 : W.heap.size ≠ d := by omega
      have r1 := p2 _ (drew_at p1)
      have r2 := p2 (World.setCell (World.drew (W.alloc (.cells #[.int .i64 t, .int .i64 k, .int .i64 i, .int .u32 g, .int .i64 y, .int .i64 z] 40))) ⟨d, 0, none⟩ (.int .i64 t)) (set_oth (drew_at p1) (Ne.symm n2))
      have b4 := setB_at (m := m) (X := X) (drew_at b2) n2
      have e0 := cell_at (i := 0) b4 rfl
      have e1 := frozen_block b4 0
      have HF := hid (show SteadyI c d m (fun x => if x = (k, i, g) then some y else f x, t) ((Go.ChangeMaps.setBlock (World.drew (W.alloc (.cells #[.int .i64 t, .int .i64 k, .int .i64 i, .int .u32 g, .int .i64 y, .int .i64 z] 40))) m X).setCell ⟨d, 0, none⟩ (.int .i64 t)) ∧
          Keeps (fun y => y = m ∨ y = d) W ((Go.ChangeMaps.setBlock (World.drew (W.alloc (.cells #[.int .i64 t, .int .i64 k, .int .i64 i, .int .u32 g, .int .i64 y, .int .i64 z] 40))) m X).setCell ⟨d, 0, none⟩ (.int .i64 t)) from
        ⟨⟨set_oth (setB_at (drew_at b1) n1) n3, set_block b4 0 _, ⟨_, (p3 _ (drew_at p1)).keeps ((Keeps.refl (fun y => y = d) _).setCell (p := ⟨d, 0, none⟩) (.inl rfl) (.int .i64 t)) (fun h => n2 h.symm), fun x => by
            by_cases e : x = (k, i, g)
            · simp [e]
            · simp [e, h4]⟩, n1, n2, n3⟩,
          (((Keeps.r (a := W) (S := fun y => y = m ∨ y = d)).drew).trans (setB_keeps (.inl rfl))).setCell (p := ⟨d, 0, none⟩) (.inl (.inr rfl)) _⟩)
      clear h1 h2 h3 h4 ho ha k0 p3 l1 l2 l3 p2 b4
      go_enter Tryz.func19, Tryz.ntmps19
      go_wp2_with fail
      go_region_held3 (fun V => V.cell? ⟨c, 0, none⟩ = some (.map (some m)) ∧ V.cell? ⟨W.heap.size, 0, none⟩ = some (.int .i64 t) ∧ V.cell? ⟨W.heap.size, 1, none⟩ = some (.int .i64 k) ∧ V.cell? ⟨W.heap.size, 2, none⟩ = some (.int .i64 i) ∧ V.cell? ⟨W.heap.size, 3, none⟩ = some (.int .u32 g) ∧ V.cell? ⟨W.heap.size, 4, none⟩ = some (.int .i64 y))
        ((refine stS (y := y) (z := z) (tc := 55) (tb := 40) ?_ ?_; all_goals (repeat (first | with_reducible assumption | with_reducible refine drew_at ?_ | with_reducible refine drewN_at ?_ | (with_reducible refine setO2 ?_ ?_; focus (first | assumption | (apply Ne.symm; assumption))) | (with_reducible refine setB2 ?_ ?_; focus (first | assumption | (apply Ne.symm; assumption))))))) (fail)
      all_goals
        go_wp2_with fail
        go_ret
        exact ⟨rfl, fun _ => HF.out.1, HF.out.2⟩
theorem SteadyI.keeps {c d m : Nat} {s : (Ou → Option Int) × Int} {W W' : World} (h : SteadyI c d m s W) (hk : Keeps (fun _ => False) W W') : SteadyI c d m s W' := by
  obtain ⟨h1, h2, ⟨q, h3, h4⟩, n⟩ := h
  exact ⟨block_keep h1 hk (fun h => h), block_keep h2 hk (fun h => h), ⟨q, h3.keeps hk (fun h => h), h4⟩, n⟩
set_option maxRecDepth 100000 in
set_option maxHeartbeats 1000000 in
theorem asteady (v : Value) (l : List At) (w : World) (hv : AtRow w v l) : Calls Tryz.prog 10 #[v] w fun e w' => e = .returned (ansV (ckL l) (runs steadyF (fun _ => none, 0) l 0)) ∧ Keeps (fun _ => False) w w' := by
  have HV := hid hv
  clear hv
  have hmm := @run_makeMap Tryz.prog
  go_enter Tryz.func10, Tryz.ntmps10
  go_wp2_with fail
  have HI := hid (show SteadyI (w.heap.size + 1) (w.heap.size + 2) w.heap.size (fun _ => none, 0) (((w.alloc (.map #[] 0)).alloc (.cells #[.map (some w.heap.size)] 55)).alloc (.cells #[.int .i64 0] 2)) from
    ⟨alloc_old (alloc_new' (by simp)), alloc_new' (by simp), ⟨_, (OM.made w).keeps (Keeps.r (S := fun _ => False)) (fun h => h), fun _ => rfl⟩, by omega, by omega, by omega⟩)
  refine (afirst steadyF (fun _ => none, 0) 19 #[.pointer (some ⟨w.heap.size + 1, 0, none⟩), .pointer (some ⟨w.heap.size + 2, 0, none⟩)] v l _ (fun y => y = w.heap.size ∨ y = w.heap.size + 2) (SteadyI (w.heap.size + 1) (w.heap.size + 2) w.heap.size) (enters_of Tryz.func19 (by kernel_rfl) rfl)
    (fun j a W hj _ hI hk => steady1 _ _ _ _ a (HV.out.wf a (List.mem_of_getElem? hj)) W hI) (fun s W W' h hk => h.keeps hk)
    (fun W hk => HV.out.keeps (((Keeps.r (S := fun y => y = w.heap.size ∨ y = w.heap.size + 2) (a := w)).trans hk)) (fun k hk h => by omega)) HI.out).mono ?_
  rintro e w1 ⟨rfl, k1⟩
  have K1 := hid (show Keeps (fun _ => False) w w1 from ((Keeps.r (a := w) (S := fun y => y = w.heap.size ∨ y = w.heap.size + 2)).trans k1).mono fun y hy h => by omega)
  obtain ⟨x, y, z, hxyz⟩ := ansV_shape (ckL l) (runs steadyF (fun _ => none, 0) l 0)
  rw [hxyz]
  have HZ := hid hxyz
  clear k1 HI hxyz
  go_wp2_with fail
  go_ret3
  exact ⟨congrArg Ending.returned HZ.out.symm, K1.out⟩
end Go.Proofs.YtcagogkgnnckaaaGreatDoor
