/- Attempts by numbers: tries. -/
import Derived.Test.YtcagogkgnnckaaaGreatDoorAuY
import Derived.Test.YtcagogkgnnckaaaGreatDoorAuT
import Derived.Laws.AppendOwn
namespace Go.Proofs.YtcagogkgnnckaaaGreatDoor
open Go.RowKit
set_option linter.unusedVariables false
set_option linter.unusedSimpArgs false

structure TyCell (w : World) (b o : Nat) (x : Ty) : Prop where
  c0 : w.cell? ⟨b, o, none⟩ = some (.int .u8 x.w)
  c1 : w.cell? ⟨b, o + 1, none⟩ = some (.int .u8 x.k)
  c2 : w.cell? ⟨b, o + 2, none⟩ = some (.int .u8 x.y)
  c3 : w.cell? ⟨b, o + 3, none⟩ = some (.int .u8 x.s)
def TyRow (w : World) (v : Value) (l : List Ty) : Prop := ∃ a cap, v = .slice a l.length cap ∧ l.length ≤ cap ∧ cap ≤ maxLen ∧ (∀ x ∈ l, x.w < 256 ∧ x.k < 256 ∧ x.y < 256 ∧ x.s < 256) ∧ (l = [] ∨ ∃ b off, a = some ⟨b, off, none⟩ ∧ b < w.heap.size ∧ ∀ (i : Nat) (x : Ty), l[i]? = some x → TyCell w b (off + i * 4) x)
theorem TyCell.same {w w' : World} {b o : Nat} {x : Ty} (h : TyCell w b o x) (hb : w'.heap[b]? = w.heap[b]?) : TyCell w' b o x := by
  have e := fun k => World.cell?_of_block (w := w) (w' := w') (a := ⟨b, k, none⟩) hb
  exact ⟨(e _).trans h.c0, (e _).trans h.c1, (e _).trans h.c2, (e _).trans h.c3⟩
def At.cells (a : At) : List Value := [.int .i64 a.t, .int .i64 a.o.1, .int .i64 a.o.2.1, .int .u32 a.o.2.2, .int .i64 a.y, .int .i64 a.s]
/-- a row of attempts that is its holder's own -/
def AtOwn (w : World) (base : Nat) (v : Value) (l : List At) : Prop := w.ownsRow base 40 6 v l.length (l.flatMap At.cells)
theorem AtOwn.keeps {w w' : World} {base : Nat} {v : Value} {l : List At} (h : AtOwn w base v l) (hk : Keeps (fun _ => False) w w') : AtOwn w' base v l := by
  obtain ⟨h1, h2⟩ := h
  refine ⟨h1, ?_⟩
  rcases h2 with h2 | ⟨g, cap, cur, rfl, hb, hg, r1, r2, r3, r4⟩
  · exact .inl h2
  · exact .inr ⟨g, cap, cur, rfl, hb, block_keep hg hk (fun h => h), r1, r2, r3, r4⟩
theorem attempt_info : ∃ i, Tryz.prog.info? 40 = some i ∧ i.zero = some (.agg #[.int .i64 0, .int .i64 0, .int .i64 0, .int .u32 0, .int .i64 0, .int .i64 0]) ∧ i.size = 6 ∧ i.bytes = 48 := by
  have h : (Tryz.prog.info? 40).map (fun i => (i.zero, i.size, i.bytes)) = some (some (.agg #[.int .i64 0, .int .i64 0, .int .i64 0, .int .u32 0, .int .i64 0, .int .i64 0]), 6, 48) := by kernel_rfl
  rcases hi : Tryz.prog.info? 40 with _ | i
  · rw [hi] at h; cases h
  · rw [hi] at h
    simp only [Option.map_some, Option.some.injEq, Prod.mk.injEq] at h
    exact ⟨i, rfl, h.1, h.2.1, h.2.2⟩
theorem At.cells_at : ∀ (l : List At) (i j : Nat) (x : At), l[i]? = some x → j < 6 → (l.flatMap At.cells)[i * 6 + j]? = x.cells[j]?
  | [], i, j, x, h, _ => by cases h
  | a :: l, 0, j, x, h, hj => by
    cases h
    rw [List.flatMap_cons, List.getElem?_append_left (by simp [At.cells]; omega)]
    simp
  | a :: l, i + 1, j, x, h, hj => by
    rw [List.flatMap_cons, List.getElem?_append_right (by simp [At.cells]; omega)]
    rw [show (i + 1) * 6 + j - a.cells.length = i * 6 + j by simp [At.cells]; omega]
    exact At.cells_at l i j x h hj
theorem AtOwn.row {w : World} {base : Nat} {v : Value} {l : List At} (h : AtOwn w base v l) (hw : ∀ a ∈ l, a.Wf) : AtRow w v l := by
  rcases h.2 with ⟨rfl, h0⟩ | ⟨g, cap, cur, rfl, hb, hg, r1, r2, r3, r4⟩
  · obtain rfl : l = [] := List.eq_nil_of_length_eq_zero h0
    exact ⟨none, 0, rfl, Nat.le_refl _, Nat.zero_le _, hw, .inl rfl⟩
  · refine ⟨_, cap, rfl, r1, r2, hw, .inr ⟨g, 0, rfl, lt_block hg, fun i x hi => ?_⟩⟩
    have hc : ∀ j u, j < 6 → x.cells[j]? = some u → w.cell? ⟨g, 0 + i * 6 + j, none⟩ = some u := fun j u hj hu => by
      have h1 := World.ownsRow.cells h (g := g) rfl (i * 6 + j) u (by rw [At.cells_at l i j x hi hj]; exact hu)
      have h2 : (⟨g, 0, none⟩ : Addr).add (i * 6 + j) = ⟨g, 0 + i * 6 + j, none⟩ := by
        unfold Addr.add; split <;> simp <;> omega
      rw [h2] at h1
      exact h1
    exact ⟨hc 0 _ (by omega) rfl, hc 1 _ (by omega) rfl, hc 2 _ (by omega) rfl, hc 3 _ (by omega) rfl, hc 4 _ (by omega) rfl, hc 5 _ (by omega) rfl⟩
theorem tri_wf {l : List Ty} (hl : l.length ≤ 80) : ∀ a ∈ (triL l).2, a.Wf := by
  obtain ⟨_, _, _, h⟩ := tri_ok hl
  intro a ha
  obtain ⟨h1, h2⟩ := h a ha
  have e1 : IntKind.i64.min = -9223372036854775808 := by decide
  have e2 : IntKind.i64.max = 9223372036854775807 := by decide
  have e3 : IntKind.u32.min = 0 := by decide
  have e4 : IntKind.u32.max = 4294967295 := by decide
  simp [At.ok] at h1
  exact ⟨by simp [Lit.wf, e1, e2]; omega, by simp [Lit.wf, e1, e2]; omega, by simp [Lit.wf, e1, e2]; omega, by simp [Lit.wf, e3, e4, h2]⟩
theorem file_ok (i : Int) (w : World) : Calls Tryz.prog 15 #[.int .i64 i] w fun e w' => e = .returned (.agg #[.int .i64 1, .int .i64 i, .int .u32 1]) ∧ Keeps (fun _ => False) w w' := by
  go_enter Tryz.func15, Tryz.ntmps15
  go_wp2_with fail
  exact bodyPost_ret_by (v := .agg #[.int .i64 1, .int .i64 i, .int .u32 1]) (by simp [results, Tryz.results15, go_sem, *]) rfl ⟨rfl, Keeps.c (Keeps.r (a := w))⟩
/-- what comes up in a region that draws its order: taken first (false), or a step (true) -/
structure TK (l : List (Bool × Nat)) (p : Prop) : Prop where
  out : p
theorem TK.at {p : Prop} (l : List (Bool × Nat)) (h : TK l p) : p := h.out
section
variable {P : Program} {ops : Array Oper} {Q : Exit → Act → World → Prop} {md : Region.Mode} {S : World → Prop} {fuel : Nat} {listed : Array Bool} {a : Act} {w : World} {i : Nat} {o : Oper} {l : List (Bool × Nat)}
theorem TK.take {v : Value} (hi : ops[i]? = some o) (hs : Region.noSelect ops = true) (hf : Region.free md ops listed i = true) (hr : (Region.ready md ops listed).contains i = true)
    (hQ : ∀ c a w, Q (.panic c) (a.put o.dst v) w → Q (.panic c) a w) (hy : YieldsIf P ops S o v a) (hS : S w) (h : TK l (wpAnyH P md ops Q S fuel (listed.setIfInBounds i true) (a.put o.dst v) w)) : TK ((false, i) :: l) (wpAnyH P md ops Q S (fuel + 1) listed a w) :=
  ⟨wpAnyH_take hi hs hf hr hQ hy hS h.out⟩
theorem TK.call (hr : Region.ready md ops listed = [i]) (ho : ops[i]? = some o)
    (h : ∀ K' : Act → World → Prop, Shut (∀ a w, S w → (S w → TK l (wpAnyH P md ops Q S fuel (listed.setIfInBounds i true) a w)) → K' a w) → if Region.wanted o (yielded ops a.tmps) = true then Oper.wp P o a w K' Q else K' (a.put o.dst undef) w) : TK ((true, i) :: l) (wpAnyH P md ops Q S (fuel + 1) listed a w) :=
  ⟨wpAnyH_ready hr (by simp) (AllReadyH.cons ho (fun K hK => h K (fun a w hs k => hK a w hs (fun s => (k s).out))) AllReadyH.nil)⟩
end
theorem grown_keeps {w w' : World} {r : Option Nat} (h : w.grownBy w' r) : Keeps (fun k => r = some k) w w' :=
  ⟨h.os, h.tape, h.output, h.size, fun k hk hs => h.block k hk (fun e => hs e.symm)⟩
theorem six_cells {w : World} {a : Addr} {v0 v1 v2 v3 v4 v5 : Value} (h0 : w.cell? (a.add 0) = some v0) (h1 : w.cell? (a.add 1) = some v1) (h2 : w.cell? (a.add 2) = some v2) (h3 : w.cell? (a.add 3) = some v3) (h4 : w.cell? (a.add 4) = some v4) (h5 : w.cell? (a.add 5) = some v5) :
    ∀ j u, [v0, v1, v2, v3, v4, v5][j]? = some u → w.cell? (a.add j) = some u
  | 0, u, h => by cases h; exact h0
  | 1, u, h => by cases h; exact h1
  | 2, u, h => by cases h; exact h2
  | 3, u, h => by cases h; exact h3
  | 4, u, h => by cases h; exact h4
  | 5, u, h => by cases h; exact h5
  | n + 6, u, h => by cases h
theorem six_one {a c d e f g : Int} : ∀ u ∈ [Value.int .i64 a, .int .i64 c, .int .i64 d, .int .u32 e, .int .i64 f, .int .i64 g], u.oneCell' = true := by
  intro u hu
  simp at hu
  rcases hu with rfl | rfl | rfl | rfl | rfl | rfl <;> rfl
theorem tri_own {w9 : World} {base : Nat} {v' : Value} {l : List Ty} {i : Nat} {x : Ty} (h : l[i]? = some x) {T A B Z : Int} (hT : (triL (l.take i)).1 = T) (hA : A = ((x.w % 6 : Nat) : Int)) (hB : B = ((x.y % 3 : Nat) : Int)) (hZ : ansN (x.s % 4) = Z)
    (ho : w9.ownsRow base 40 6 v' ((triL (l.take i)).2.length + 1) ((triL (l.take i)).2.flatMap At.cells ++ [.int .i64 (T + (x.k : Int) % 16), .int .i64 1, .int .i64 A, .int .u32 1, .int .i64 (1 + B), .int .i64 Z])) :
    AtOwn w9 base v' (triL (l.take (i + 1))).2 ∧ (triL (l.take (i + 1))).1 = T + (x.k : Int) % 16 := by
  rw [triL_succ h, hT]
  subst hA hB hZ
  refine ⟨?_, by dsimp only [Ty.att]; omega⟩
  unfold AtOwn
  rw [List.length_append, List.flatMap_append]
  exact ho
set_option maxRecDepth 100000 in
set_option maxHeartbeats 4000000 in
theorem tries_ok (v : Value) (l : List Ty) (w : World) (hv : TyRow w v l) (hn : l.length ≤ 80) : Calls Tryz.prog 5 #[v] w fun e w' => ∃ u, e = .returned u ∧ AtRow w' u (triL l).2 ∧ Keeps (fun _ => False) w w' := by
  obtain ⟨pa, cap, rfl, hcap, hmax, h256, hx⟩ := hv
  have HX := hid hx
  have HW := hid h256
  clear hx h256 hcap hmax
  go_enter Tryz.func5, Tryz.ntmps5
  go_wp2_with fail
  go_loopw [3, 4, 5] (fun sv tv ix wr => ∃ i : Nat, i ≤ l.length ∧ ix = .int .i64 i ∧ tv = .int .i64 (triL (l.take i)).1 ∧ Hid (AtOwn wr w.heap.size sv (triL (l.take i)).2 ∧ Keeps (fun _ => False) w wr)) (fun _ _ ix _ => l.length - (intOf ix).toNat)
  case atStart => exact ⟨0, Nat.zero_le _, rfl, rfl, hid ⟨World.ownsRow_nil _ _ _ _, Keeps.r⟩⟩
  case round =>
    obtain ⟨i, hi, rfl, rfl, HI⟩ := hrel
    have hi0 : (0 : Int) ≤ i := by omega
    have hn' : (l.length : Int) ≤ 80 := by omega
    by_cases hlt : i < l.length
    · obtain ⟨x, hy⟩ : ∃ y, l[i]? = some y := ⟨_, List.getElem?_eq_getElem hlt⟩
      have hlt' : (i : Int) < (l.length : Int) := by omega
      obtain ⟨b, off, rfl, hb, hcl⟩ := HX.out.resolve_left (by intro h; rw [h] at hlt; simp at hlt)
      obtain ⟨c0, c1, c2, c3⟩ := (hcl i x hy).same (HI.out.2.block b hb (fun h => h))
      have hbw : b < wr.heap.size := Nat.lt_of_lt_of_le hb HI.out.2.size
      have HY := hid hy
      have HS : Hid (∀ W, Keeps (fun y => w.heap.size ≤ y) wr W → W.cell? ⟨b, off + i * 4, none⟩ = some (.int .u8 x.w) ∧ W.cell? ⟨b, off + i * 4 + 2, none⟩ = some (.int .u8 x.y) ∧ W.cell? ⟨b, off + i * 4 + 3, none⟩ = some (.int .u8 x.s)) := hid (fun W hk => by
        obtain ⟨d0, d1, d2, d3⟩ := (hcl i x hy).same ((hk.block b hbw (by omega)).trans (HI.out.2.block b hb (fun h => h)))
        exact ⟨d0, d2, d3⟩)
      obtain ⟨T, hT⟩ : ∃ T, (triL (l.take i)).1 = T := ⟨_, rfl⟩
      have htb := tri_ok (At.ok_len (l := l) (i := i) hn)
      rw [hT] at htb ⊢
      obtain ⟨t1, t2, t3, _⟩ := htb
      have HT := hid hT
      obtain ⟨ri, hi1, hi2, hi3, hi4⟩ := attempt_info
      clear hcl hy hT
      obtain ⟨A, hA, hA1⟩ : ∃ A : Int, (x.w : Int).tmod 6 = A ∧ (A = ((x.w % 6 : Nat) : Int) ∧ 0 ≤ A ∧ A < 6) := ⟨_, rfl, by rw [Int.tmod_eq_emod_of_nonneg (by omega)]; omega⟩
      obtain ⟨B, hB, hB1⟩ : ∃ B : Int, (x.y : Int).tmod 3 = B ∧ (B = ((x.y % 3 : Nat) : Int) ∧ 0 ≤ B ∧ B < 3) := ⟨_, rfl, by rw [Int.tmod_eq_emod_of_nonneg (by omega)]; omega⟩
      obtain ⟨z, hz, hz4⟩ : ∃ z : Int, (x.s : Int).tmod 4 = z ∧ ((z = 0 ∧ ansN (x.s % 4) = 2) ∨ (z = 1 ∧ ansN (x.s % 4) = 2) ∨ (z = 2 ∧ ansN (x.s % 4) = 1) ∨ (z = 3 ∧ ansN (x.s % 4) = 3)) := by
        refine ⟨_, rfl, ?_⟩
        rw [Int.tmod_eq_emod_of_nonneg (by omega)]
        have : x.s % 4 = 0 ∨ x.s % 4 = 1 ∨ x.s % 4 = 2 ∨ x.s % 4 = 3 := by omega
        rcases this with h | h | h | h
        · exact .inl ⟨by omega, by rw [h]; rfl⟩
        · exact .inr (.inl ⟨by omega, by rw [h]; rfl⟩)
        · exact .inr (.inr (.inl ⟨by omega, by rw [h]; rfl⟩))
        · exact .inr (.inr (.inr ⟨by omega, by rw [h]; rfl⟩))
      have w6 : IntKind.i64.wrap A = A := IntWalk.i64_in _ (by omega)
      have w3 : IntKind.i64.wrap B = B := IntWalk.i64_in _ (by omega)
      have w31 : IntKind.i64.wrap (1 + B) = 1 + B := IntWalk.i64_in _ (by omega)
      have HA := hid hA1
      have HB := hid hB1
      clear hA1 hB1
      have hbnd1 : (triL (l.take i)).2.length + 1 ≤ maxLen := by rw [t3]; simp [maxLen]; omega
      have hbnd2 : ((triL (l.take i)).2.length + 1) * 48 ≤ 140737488355328 := by rw [t3]; simp; omega
      have hbnd3 : ∀ W, Keeps (fun _ => False) wr W → w.heap.size ≤ W.heap.size := fun W h => Nat.le_trans HI.out.2.size h.size
      rcases hz4 with ⟨rfl, hz5⟩ | ⟨rfl, hz5⟩ | ⟨rfl, hz5⟩ | ⟨rfl, hz5⟩
      · have HZ := hid hz5
        clear hz5
        go_wp2_with fail
        refine wp_region_noPanic ?_
        refine wp_region_held_drew (S := (fun W => W.cell? ⟨b, off + i * 4, none⟩ = some (.int .u8 x.w) ∧ W.cell? ⟨b, off + i * 4 + 2, none⟩ = some (.int .u8 x.y) ∧ W.cell? ⟨b, off + i * 4 + 3, none⟩ = some (.int .u8 x.s))) (by kernel_rfl) ?_ (fun hHeld => ?_)
        · exact HS.out _ (Keeps.refl _ _).drew
        refine TK.at [(false, 0), (false, 1), (false, 2), (false, 3), (false, 4), (false, 5), (false, 6), (false, 7), (false, 8), (false, 10), (false, 11), (false, 12), (false, 13), (false, 14), (false, 15), (false, 16), (false, 17), (false, 19), (false, 20), (false, 21), (false, 22), (false, 23), (false, 24)] ?_
        repeat (first
            | (refine TK.take (v := ?_) rfl (by kernel_rfl) (by kernel_rfl) (by kernel_rfl) (fun _ _ _ h => h) (Or.inl ⟨by rfl, ?_⟩) (by assumption) ?_
               rotate_left
               · (intro w hSw; (try dsimp only at hSw); simp only [List.getElem_toArray, List.getElem_cons_zero, List.getElem_cons_succ]; go_simp; (first | done | with_reducible rfl))
               simp only [List.getElem_toArray, List.getElem_cons_zero, List.getElem_cons_succ, Act.put, List.setIfInBounds_toArray, List.set_cons_zero, List.set_cons_succ]))
        refine TK.mk ?_
        refine wpAnyH_ready (rs := [9, 18]) (by kernel_rfl) (by simp) (AllReadyH.cons rfl (fun K hK => ?_) (AllReadyH.cons rfl (fun K hK => ?_) AllReadyH.nil))
        · go_simp
          go_at_call 15; refine (file_ok _ _).mono ?_; rintro e w7 ⟨rfl, k7⟩; first | (have nb := block_keep (drew_at (alloc_new (w := wr) (o := .cells #[.int .i64 2, .int .i64 2, .int .i64 1, .int .i64 3] 3))) k7 (fun h => h); have n0 := cell_at (i := 0) nb rfl; have n1 := cell_at (i := 1) nb rfl; have n2 := cell_at (i := 2) nb rfl; have n3 := cell_at (i := 3) nb rfl) | (have nb := block_keep (alloc_new (w := World.drew wr) (o := .cells #[.int .i64 2, .int .i64 2, .int .i64 1, .int .i64 3] 3)) k7 (fun h => h); have n0 := cell_at (i := 0) nb rfl; have n1 := cell_at (i := 1) nb rfl; have n2 := cell_at (i := 2) nb rfl; have n3 := cell_at (i := 3) nb rfl) | (have nb := block_keep (alloc_new (w := wr) (o := .cells #[.int .i64 2, .int .i64 2, .int .i64 1, .int .i64 3] 3)) k7 (fun h => h); have n0 := cell_at (i := 0) nb rfl; have n1 := cell_at (i := 1) nb rfl; have n2 := cell_at (i := 2) nb rfl; have n3 := cell_at (i := 3) nb rfl) | skip
          refine hK.out _ _ ?_ (fun hHeld => ?_)
          · (refine HS.out _ ?_; (repeat (first | with_reducible exact Keeps.refl _ _ | with_reducible refine Keeps.alloc ?_ _ | with_reducible refine Keeps.drewN ?_ _ | with_reducible refine Keeps.drew ?_ | with_reducible refine Keeps.trans ?_ (by with_reducible assumption) | with_reducible refine Keeps.trans ?_ (Keeps.up (by with_reducible assumption)))))
          clear hK K
          try dsimp only [Act.put, List.setIfInBounds_toArray, List.set_cons_zero, List.set_cons_succ]
          refine TK.at [(true, 18), (false, 25), (true, 26), (false, 27), (true, 28), (true, 29), (true, 30)] ?_
          repeat (first
              | (refine TK.take (v := ?_) rfl (by kernel_rfl) (by kernel_rfl) (by kernel_rfl) (fun _ _ _ h => h) (Or.inl ⟨by rfl, ?_⟩) (by assumption) ?_
                 rotate_left
                 · (intro w hSw; (try dsimp only at hSw); simp only [List.getElem_toArray, List.getElem_cons_zero, List.getElem_cons_succ]; go_simp; (first | done | with_reducible rfl))
                 simp only [List.getElem_toArray, List.getElem_cons_zero, List.getElem_cons_succ, Act.put, List.setIfInBounds_toArray, List.set_cons_zero, List.set_cons_succ])
              | (refine TK.call (by kernel_rfl) rfl (fun K hK => ?_)
                 first
                   | (rw [if_pos (by rfl)]; refine wp_append_own _ _ _ 24 rfl w.heap.size 40 ri (.agg #[.int .i64 0, .int .i64 0, .int .i64 0, .int .u32 0, .int .i64 0, .int .i64 0]) 6 48 Tryz.underlying24 hi1 hi2 hi3 hi4 rfl (by decide) _ _ _ rfl (HI.out.1.keeps ?c0) _ 1 1 [.int .i64 (T + (x.k : Int) % 16), .int .i64 1, .int .i64 A, .int .u32 1, .int .i64 (1 + B), .int .i64 2] rfl rfl ?c1 ?c2 ?c3 ?c4 ?c5 ?_
                      case c0 => (repeat (first | with_reducible exact Keeps.refl _ _ | with_reducible refine Keeps.alloc ?_ _ | with_reducible refine Keeps.drewN ?_ _ | with_reducible refine Keeps.drew ?_ | with_reducible refine Keeps.trans ?_ (by with_reducible assumption)))
                      case c1 => exact six_cells (by simp [Addr.add]) (by simp [Addr.add]) (by simp [Addr.add]) (by simp [Addr.add]) (by simp [Addr.add]) (by simp [Addr.add])
                      case c2 => exact six_one
                      case c3 => exact hbnd1
                      case c4 => exact hbnd2
                      case c5 => exact hbnd3 _ (by (repeat (first | with_reducible exact Keeps.refl _ _ | with_reducible refine Keeps.alloc ?_ _ | with_reducible refine Keeps.drewN ?_ _ | with_reducible refine Keeps.drew ?_ | with_reducible refine Keeps.trans ?_ (by with_reducible assumption))))
                      intro v' w9 hown hgr _
                      have k9 := (grown_keeps hgr).mono (fun y _ h => (World.ownsRow.lt HI.out.1 y h).1))
                   | (go_simp; go_at_call 15; refine (file_ok _ _).mono ?_; rintro e w7 ⟨rfl, k7⟩; first | (have nb := block_keep (drew_at (alloc_new (w := wr) (o := .cells #[.int .i64 2, .int .i64 2, .int .i64 1, .int .i64 3] 3))) k7 (fun h => h); have n0 := cell_at (i := 0) nb rfl; have n1 := cell_at (i := 1) nb rfl; have n2 := cell_at (i := 2) nb rfl; have n3 := cell_at (i := 3) nb rfl) | (have nb := block_keep (alloc_new (w := World.drew wr) (o := .cells #[.int .i64 2, .int .i64 2, .int .i64 1, .int .i64 3] 3)) k7 (fun h => h); have n0 := cell_at (i := 0) nb rfl; have n1 := cell_at (i := 1) nb rfl; have n2 := cell_at (i := 2) nb rfl; have n3 := cell_at (i := 3) nb rfl) | (have nb := block_keep (alloc_new (w := wr) (o := .cells #[.int .i64 2, .int .i64 2, .int .i64 1, .int .i64 3] 3)) k7 (fun h => h); have n0 := cell_at (i := 0) nb rfl; have n1 := cell_at (i := 1) nb rfl; have n2 := cell_at (i := 2) nb rfl; have n3 := cell_at (i := 3) nb rfl) | skip)
                   | go_simp
                 refine hK.out _ _ ?_ (fun hHeld => ?_)
                 · (refine HS.out _ ?_; (repeat (first | with_reducible exact Keeps.refl _ _ | with_reducible refine Keeps.alloc ?_ _ | with_reducible refine Keeps.drewN ?_ _ | with_reducible refine Keeps.drew ?_ | with_reducible refine Keeps.trans ?_ (by with_reducible assumption) | with_reducible refine Keeps.trans ?_ (Keeps.up (by with_reducible assumption)))))
                 clear hK K
                 try dsimp only [Act.put, List.setIfInBounds_toArray, List.set_cons_zero, List.set_cons_succ]))
          refine TK.mk (wpAnyH_done (by kernel_rfl) ?_ _)
          refine NoPanic.normal ?_
          obtain ⟨o1, o2⟩ := tri_own HY.out HT.out HA.out.1 HB.out.1 HZ.out hown
          have kf : Keeps (fun _ => False) w w9 := Keeps.fresh (HI.out.2.up.trans (Keeps.trans (by (repeat (first | with_reducible exact Keeps.refl _ _ | with_reducible refine Keeps.alloc ?_ _ | with_reducible refine Keeps.drewN ?_ _ | with_reducible refine Keeps.drew ?_ | with_reducible refine Keeps.trans ?_ (by with_reducible assumption) | with_reducible refine Keeps.trans ?_ (Keeps.up (by with_reducible assumption))))) k9))
          have HF := hid (And.intro o1 (And.intro o2 kf))
          clear hown o1 o2 kf k9 hgr
          go_wp2_with fail
          exact ⟨⟨i + 1, by omega, rfl, by rw [HF.out.2.1], hid ⟨HF.out.1, HF.out.2.2⟩⟩, by simp [intOf]; omega⟩
        · go_simp
          refine hK.out _ _ ?_ (fun hHeld => ?_)
          · (refine HS.out _ ?_; (repeat (first | with_reducible exact Keeps.refl _ _ | with_reducible refine Keeps.alloc ?_ _ | with_reducible refine Keeps.drewN ?_ _ | with_reducible refine Keeps.drew ?_ | with_reducible refine Keeps.trans ?_ (by with_reducible assumption) | with_reducible refine Keeps.trans ?_ (Keeps.up (by with_reducible assumption)))))
          clear hK K
          try dsimp only [Act.put, List.setIfInBounds_toArray, List.set_cons_zero, List.set_cons_succ]
          refine TK.at [(false, 25)] ?_
          repeat (first
              | (refine TK.take (v := ?_) rfl (by kernel_rfl) (by kernel_rfl) (by kernel_rfl) (fun _ _ _ h => h) (Or.inl ⟨by rfl, ?_⟩) (by assumption) ?_
                 rotate_left
                 · (intro w hSw; (try dsimp only at hSw); simp only [List.getElem_toArray, List.getElem_cons_zero, List.getElem_cons_succ]; go_simp; (first | done | with_reducible rfl))
                 simp only [List.getElem_toArray, List.getElem_cons_zero, List.getElem_cons_succ, Act.put, List.setIfInBounds_toArray, List.set_cons_zero, List.set_cons_succ]))
          refine TK.mk ?_
          refine wpAnyH_ready (rs := [9, 26]) (by kernel_rfl) (by simp) (AllReadyH.cons rfl (fun K hK => ?_) (AllReadyH.cons rfl (fun K hK => ?_) AllReadyH.nil))
          · go_simp
            go_at_call 15; refine (file_ok _ _).mono ?_; rintro e w7 ⟨rfl, k7⟩; first | (have nb := block_keep (drew_at (alloc_new (w := wr) (o := .cells #[.int .i64 2, .int .i64 2, .int .i64 1, .int .i64 3] 3))) k7 (fun h => h); have n0 := cell_at (i := 0) nb rfl; have n1 := cell_at (i := 1) nb rfl; have n2 := cell_at (i := 2) nb rfl; have n3 := cell_at (i := 3) nb rfl) | (have nb := block_keep (alloc_new (w := World.drew wr) (o := .cells #[.int .i64 2, .int .i64 2, .int .i64 1, .int .i64 3] 3)) k7 (fun h => h); have n0 := cell_at (i := 0) nb rfl; have n1 := cell_at (i := 1) nb rfl; have n2 := cell_at (i := 2) nb rfl; have n3 := cell_at (i := 3) nb rfl) | (have nb := block_keep (alloc_new (w := wr) (o := .cells #[.int .i64 2, .int .i64 2, .int .i64 1, .int .i64 3] 3)) k7 (fun h => h); have n0 := cell_at (i := 0) nb rfl; have n1 := cell_at (i := 1) nb rfl; have n2 := cell_at (i := 2) nb rfl; have n3 := cell_at (i := 3) nb rfl) | skip
            refine hK.out _ _ ?_ (fun hHeld => ?_)
            · (refine HS.out _ ?_; (repeat (first | with_reducible exact Keeps.refl _ _ | with_reducible refine Keeps.alloc ?_ _ | with_reducible refine Keeps.drewN ?_ _ | with_reducible refine Keeps.drew ?_ | with_reducible refine Keeps.trans ?_ (by with_reducible assumption) | with_reducible refine Keeps.trans ?_ (Keeps.up (by with_reducible assumption)))))
            clear hK K
            try dsimp only [Act.put, List.setIfInBounds_toArray, List.set_cons_zero, List.set_cons_succ]
            refine TK.at [(true, 26), (false, 27), (true, 28), (true, 29), (true, 30)] ?_
            repeat (first
                | (refine TK.take (v := ?_) rfl (by kernel_rfl) (by kernel_rfl) (by kernel_rfl) (fun _ _ _ h => h) (Or.inl ⟨by rfl, ?_⟩) (by assumption) ?_
                   rotate_left
                   · (intro w hSw; (try dsimp only at hSw); simp only [List.getElem_toArray, List.getElem_cons_zero, List.getElem_cons_succ]; go_simp; (first | done | with_reducible rfl))
                   simp only [List.getElem_toArray, List.getElem_cons_zero, List.getElem_cons_succ, Act.put, List.setIfInBounds_toArray, List.set_cons_zero, List.set_cons_succ])
                | (refine TK.call (by kernel_rfl) rfl (fun K hK => ?_)
                   first
                     | (rw [if_pos (by rfl)]; refine wp_append_own _ _ _ 24 rfl w.heap.size 40 ri (.agg #[.int .i64 0, .int .i64 0, .int .i64 0, .int .u32 0, .int .i64 0, .int .i64 0]) 6 48 Tryz.underlying24 hi1 hi2 hi3 hi4 rfl (by decide) _ _ _ rfl (HI.out.1.keeps ?c0) _ 1 1 [.int .i64 (T + (x.k : Int) % 16), .int .i64 1, .int .i64 A, .int .u32 1, .int .i64 (1 + B), .int .i64 2] rfl rfl ?c1 ?c2 ?c3 ?c4 ?c5 ?_
                        case c0 => (repeat (first | with_reducible exact Keeps.refl _ _ | with_reducible refine Keeps.alloc ?_ _ | with_reducible refine Keeps.drewN ?_ _ | with_reducible refine Keeps.drew ?_ | with_reducible refine Keeps.trans ?_ (by with_reducible assumption)))
                        case c1 => exact six_cells (by simp [Addr.add]) (by simp [Addr.add]) (by simp [Addr.add]) (by simp [Addr.add]) (by simp [Addr.add]) (by simp [Addr.add])
                        case c2 => exact six_one
                        case c3 => exact hbnd1
                        case c4 => exact hbnd2
                        case c5 => exact hbnd3 _ (by (repeat (first | with_reducible exact Keeps.refl _ _ | with_reducible refine Keeps.alloc ?_ _ | with_reducible refine Keeps.drewN ?_ _ | with_reducible refine Keeps.drew ?_ | with_reducible refine Keeps.trans ?_ (by with_reducible assumption))))
                        intro v' w9 hown hgr _
                        have k9 := (grown_keeps hgr).mono (fun y _ h => (World.ownsRow.lt HI.out.1 y h).1))
                     | (go_simp; go_at_call 15; refine (file_ok _ _).mono ?_; rintro e w7 ⟨rfl, k7⟩; first | (have nb := block_keep (drew_at (alloc_new (w := wr) (o := .cells #[.int .i64 2, .int .i64 2, .int .i64 1, .int .i64 3] 3))) k7 (fun h => h); have n0 := cell_at (i := 0) nb rfl; have n1 := cell_at (i := 1) nb rfl; have n2 := cell_at (i := 2) nb rfl; have n3 := cell_at (i := 3) nb rfl) | (have nb := block_keep (alloc_new (w := World.drew wr) (o := .cells #[.int .i64 2, .int .i64 2, .int .i64 1, .int .i64 3] 3)) k7 (fun h => h); have n0 := cell_at (i := 0) nb rfl; have n1 := cell_at (i := 1) nb rfl; have n2 := cell_at (i := 2) nb rfl; have n3 := cell_at (i := 3) nb rfl) | (have nb := block_keep (alloc_new (w := wr) (o := .cells #[.int .i64 2, .int .i64 2, .int .i64 1, .int .i64 3] 3)) k7 (fun h => h); have n0 := cell_at (i := 0) nb rfl; have n1 := cell_at (i := 1) nb rfl; have n2 := cell_at (i := 2) nb rfl; have n3 := cell_at (i := 3) nb rfl) | skip)
                     | go_simp
                   refine hK.out _ _ ?_ (fun hHeld => ?_)
                   · (refine HS.out _ ?_; (repeat (first | with_reducible exact Keeps.refl _ _ | with_reducible refine Keeps.alloc ?_ _ | with_reducible refine Keeps.drewN ?_ _ | with_reducible refine Keeps.drew ?_ | with_reducible refine Keeps.trans ?_ (by with_reducible assumption) | with_reducible refine Keeps.trans ?_ (Keeps.up (by with_reducible assumption)))))
                   clear hK K
                   try dsimp only [Act.put, List.setIfInBounds_toArray, List.set_cons_zero, List.set_cons_succ]))
            refine TK.mk (wpAnyH_done (by kernel_rfl) ?_ _)
            refine NoPanic.normal ?_
            obtain ⟨o1, o2⟩ := tri_own HY.out HT.out HA.out.1 HB.out.1 HZ.out hown
            have kf : Keeps (fun _ => False) w w9 := Keeps.fresh (HI.out.2.up.trans (Keeps.trans (by (repeat (first | with_reducible exact Keeps.refl _ _ | with_reducible refine Keeps.alloc ?_ _ | with_reducible refine Keeps.drewN ?_ _ | with_reducible refine Keeps.drew ?_ | with_reducible refine Keeps.trans ?_ (by with_reducible assumption) | with_reducible refine Keeps.trans ?_ (Keeps.up (by with_reducible assumption))))) k9))
            have HF := hid (And.intro o1 (And.intro o2 kf))
            clear hown o1 o2 kf k9 hgr
            go_wp2_with fail
            exact ⟨⟨i + 1, by omega, rfl, by rw [HF.out.2.1], hid ⟨HF.out.1, HF.out.2.2⟩⟩, by simp [intOf]; omega⟩
          · go_simp
            refine hK.out _ _ ?_ (fun hHeld => ?_)
            · (refine HS.out _ ?_; (repeat (first | with_reducible exact Keeps.refl _ _ | with_reducible refine Keeps.alloc ?_ _ | with_reducible refine Keeps.drewN ?_ _ | with_reducible refine Keeps.drew ?_ | with_reducible refine Keeps.trans ?_ (by with_reducible assumption) | with_reducible refine Keeps.trans ?_ (Keeps.up (by with_reducible assumption)))))
            clear hK K
            try dsimp only [Act.put, List.setIfInBounds_toArray, List.set_cons_zero, List.set_cons_succ]
            refine TK.at [(true, 9), (false, 27), (true, 28), (true, 29), (true, 30)] ?_
            repeat (first
                | (refine TK.take (v := ?_) rfl (by kernel_rfl) (by kernel_rfl) (by kernel_rfl) (fun _ _ _ h => h) (Or.inl ⟨by rfl, ?_⟩) (by assumption) ?_
                   rotate_left
                   · (intro w hSw; (try dsimp only at hSw); simp only [List.getElem_toArray, List.getElem_cons_zero, List.getElem_cons_succ]; go_simp; (first | done | with_reducible rfl))
                   simp only [List.getElem_toArray, List.getElem_cons_zero, List.getElem_cons_succ, Act.put, List.setIfInBounds_toArray, List.set_cons_zero, List.set_cons_succ])
                | (refine TK.call (by kernel_rfl) rfl (fun K hK => ?_)
                   first
                     | (rw [if_pos (by rfl)]; refine wp_append_own _ _ _ 24 rfl w.heap.size 40 ri (.agg #[.int .i64 0, .int .i64 0, .int .i64 0, .int .u32 0, .int .i64 0, .int .i64 0]) 6 48 Tryz.underlying24 hi1 hi2 hi3 hi4 rfl (by decide) _ _ _ rfl (HI.out.1.keeps ?c0) _ 1 1 [.int .i64 (T + (x.k : Int) % 16), .int .i64 1, .int .i64 A, .int .u32 1, .int .i64 (1 + B), .int .i64 2] rfl rfl ?c1 ?c2 ?c3 ?c4 ?c5 ?_
                        case c0 => (repeat (first | with_reducible exact Keeps.refl _ _ | with_reducible refine Keeps.alloc ?_ _ | with_reducible refine Keeps.drewN ?_ _ | with_reducible refine Keeps.drew ?_ | with_reducible refine Keeps.trans ?_ (by with_reducible assumption)))
                        case c1 => exact six_cells (by simp [Addr.add]) (by simp [Addr.add]) (by simp [Addr.add]) (by simp [Addr.add]) (by simp [Addr.add]) (by simp [Addr.add])
                        case c2 => exact six_one
                        case c3 => exact hbnd1
                        case c4 => exact hbnd2
                        case c5 => exact hbnd3 _ (by (repeat (first | with_reducible exact Keeps.refl _ _ | with_reducible refine Keeps.alloc ?_ _ | with_reducible refine Keeps.drewN ?_ _ | with_reducible refine Keeps.drew ?_ | with_reducible refine Keeps.trans ?_ (by with_reducible assumption))))
                        intro v' w9 hown hgr _
                        have k9 := (grown_keeps hgr).mono (fun y _ h => (World.ownsRow.lt HI.out.1 y h).1))
                     | (go_simp; go_at_call 15; refine (file_ok _ _).mono ?_; rintro e w7 ⟨rfl, k7⟩; first | (have nb := block_keep (drew_at (alloc_new (w := wr) (o := .cells #[.int .i64 2, .int .i64 2, .int .i64 1, .int .i64 3] 3))) k7 (fun h => h); have n0 := cell_at (i := 0) nb rfl; have n1 := cell_at (i := 1) nb rfl; have n2 := cell_at (i := 2) nb rfl; have n3 := cell_at (i := 3) nb rfl) | (have nb := block_keep (alloc_new (w := World.drew wr) (o := .cells #[.int .i64 2, .int .i64 2, .int .i64 1, .int .i64 3] 3)) k7 (fun h => h); have n0 := cell_at (i := 0) nb rfl; have n1 := cell_at (i := 1) nb rfl; have n2 := cell_at (i := 2) nb rfl; have n3 := cell_at (i := 3) nb rfl) | (have nb := block_keep (alloc_new (w := wr) (o := .cells #[.int .i64 2, .int .i64 2, .int .i64 1, .int .i64 3] 3)) k7 (fun h => h); have n0 := cell_at (i := 0) nb rfl; have n1 := cell_at (i := 1) nb rfl; have n2 := cell_at (i := 2) nb rfl; have n3 := cell_at (i := 3) nb rfl) | skip)
                     | go_simp
                   refine hK.out _ _ ?_ (fun hHeld => ?_)
                   · (refine HS.out _ ?_; (repeat (first | with_reducible exact Keeps.refl _ _ | with_reducible refine Keeps.alloc ?_ _ | with_reducible refine Keeps.drewN ?_ _ | with_reducible refine Keeps.drew ?_ | with_reducible refine Keeps.trans ?_ (by with_reducible assumption) | with_reducible refine Keeps.trans ?_ (Keeps.up (by with_reducible assumption)))))
                   clear hK K
                   try dsimp only [Act.put, List.setIfInBounds_toArray, List.set_cons_zero, List.set_cons_succ]))
            refine TK.mk (wpAnyH_done (by kernel_rfl) ?_ _)
            refine NoPanic.normal ?_
            obtain ⟨o1, o2⟩ := tri_own HY.out HT.out HA.out.1 HB.out.1 HZ.out hown
            have kf : Keeps (fun _ => False) w w9 := Keeps.fresh (HI.out.2.up.trans (Keeps.trans (by (repeat (first | with_reducible exact Keeps.refl _ _ | with_reducible refine Keeps.alloc ?_ _ | with_reducible refine Keeps.drewN ?_ _ | with_reducible refine Keeps.drew ?_ | with_reducible refine Keeps.trans ?_ (by with_reducible assumption) | with_reducible refine Keeps.trans ?_ (Keeps.up (by with_reducible assumption))))) k9))
            have HF := hid (And.intro o1 (And.intro o2 kf))
            clear hown o1 o2 kf k9 hgr
            go_wp2_with fail
            exact ⟨⟨i + 1, by omega, rfl, by rw [HF.out.2.1], hid ⟨HF.out.1, HF.out.2.2⟩⟩, by simp [intOf]; omega⟩
      · have HZ := hid hz5
        clear hz5
        go_wp2_with fail
        refine wp_region_noPanic ?_
        refine wp_region_held_drew (S := (fun W => W.cell? ⟨b, off + i * 4, none⟩ = some (.int .u8 x.w) ∧ W.cell? ⟨b, off + i * 4 + 2, none⟩ = some (.int .u8 x.y) ∧ W.cell? ⟨b, off + i * 4 + 3, none⟩ = some (.int .u8 x.s))) (by kernel_rfl) ?_ (fun hHeld => ?_)
        · exact HS.out _ (Keeps.refl _ _).drew
        refine TK.at [(false, 0), (false, 1), (false, 2), (false, 3), (false, 4), (false, 5), (false, 6), (false, 7), (false, 8), (false, 10), (false, 11), (false, 12), (false, 13), (false, 14), (false, 15), (false, 16), (false, 17), (false, 19), (false, 20), (false, 21), (false, 22), (false, 23), (false, 24)] ?_
        repeat (first
            | (refine TK.take (v := ?_) rfl (by kernel_rfl) (by kernel_rfl) (by kernel_rfl) (fun _ _ _ h => h) (Or.inl ⟨by rfl, ?_⟩) (by assumption) ?_
               rotate_left
               · (intro w hSw; (try dsimp only at hSw); simp only [List.getElem_toArray, List.getElem_cons_zero, List.getElem_cons_succ]; go_simp; (first | done | with_reducible rfl))
               simp only [List.getElem_toArray, List.getElem_cons_zero, List.getElem_cons_succ, Act.put, List.setIfInBounds_toArray, List.set_cons_zero, List.set_cons_succ]))
        refine TK.mk ?_
        refine wpAnyH_ready (rs := [9, 18]) (by kernel_rfl) (by simp) (AllReadyH.cons rfl (fun K hK => ?_) (AllReadyH.cons rfl (fun K hK => ?_) AllReadyH.nil))
        · go_simp
          go_at_call 15; refine (file_ok _ _).mono ?_; rintro e w7 ⟨rfl, k7⟩; first | (have nb := block_keep (drew_at (alloc_new (w := wr) (o := .cells #[.int .i64 2, .int .i64 2, .int .i64 1, .int .i64 3] 3))) k7 (fun h => h); have n0 := cell_at (i := 0) nb rfl; have n1 := cell_at (i := 1) nb rfl; have n2 := cell_at (i := 2) nb rfl; have n3 := cell_at (i := 3) nb rfl) | (have nb := block_keep (alloc_new (w := World.drew wr) (o := .cells #[.int .i64 2, .int .i64 2, .int .i64 1, .int .i64 3] 3)) k7 (fun h => h); have n0 := cell_at (i := 0) nb rfl; have n1 := cell_at (i := 1) nb rfl; have n2 := cell_at (i := 2) nb rfl; have n3 := cell_at (i := 3) nb rfl) | (have nb := block_keep (alloc_new (w := wr) (o := .cells #[.int .i64 2, .int .i64 2, .int .i64 1, .int .i64 3] 3)) k7 (fun h => h); have n0 := cell_at (i := 0) nb rfl; have n1 := cell_at (i := 1) nb rfl; have n2 := cell_at (i := 2) nb rfl; have n3 := cell_at (i := 3) nb rfl) | skip
          refine hK.out _ _ ?_ (fun hHeld => ?_)
          · (refine HS.out _ ?_; (repeat (first | with_reducible exact Keeps.refl _ _ | with_reducible refine Keeps.alloc ?_ _ | with_reducible refine Keeps.drewN ?_ _ | with_reducible refine Keeps.drew ?_ | with_reducible refine Keeps.trans ?_ (by with_reducible assumption) | with_reducible refine Keeps.trans ?_ (Keeps.up (by with_reducible assumption)))))
          clear hK K
          try dsimp only [Act.put, List.setIfInBounds_toArray, List.set_cons_zero, List.set_cons_succ]
          refine TK.at [(true, 18), (false, 25), (true, 26), (false, 27), (true, 28), (true, 29), (true, 30)] ?_
          repeat (first
              | (refine TK.take (v := ?_) rfl (by kernel_rfl) (by kernel_rfl) (by kernel_rfl) (fun _ _ _ h => h) (Or.inl ⟨by rfl, ?_⟩) (by assumption) ?_
                 rotate_left
                 · (intro w hSw; (try dsimp only at hSw); simp only [List.getElem_toArray, List.getElem_cons_zero, List.getElem_cons_succ]; go_simp; (first | done | with_reducible rfl))
                 simp only [List.getElem_toArray, List.getElem_cons_zero, List.getElem_cons_succ, Act.put, List.setIfInBounds_toArray, List.set_cons_zero, List.set_cons_succ])
              | (refine TK.call (by kernel_rfl) rfl (fun K hK => ?_)
                 first
                   | (rw [if_pos (by rfl)]; refine wp_append_own _ _ _ 24 rfl w.heap.size 40 ri (.agg #[.int .i64 0, .int .i64 0, .int .i64 0, .int .u32 0, .int .i64 0, .int .i64 0]) 6 48 Tryz.underlying24 hi1 hi2 hi3 hi4 rfl (by decide) _ _ _ rfl (HI.out.1.keeps ?c0) _ 1 1 [.int .i64 (T + (x.k : Int) % 16), .int .i64 1, .int .i64 A, .int .u32 1, .int .i64 (1 + B), .int .i64 2] rfl rfl ?c1 ?c2 ?c3 ?c4 ?c5 ?_
                      case c0 => (repeat (first | with_reducible exact Keeps.refl _ _ | with_reducible refine Keeps.alloc ?_ _ | with_reducible refine Keeps.drewN ?_ _ | with_reducible refine Keeps.drew ?_ | with_reducible refine Keeps.trans ?_ (by with_reducible assumption)))
                      case c1 => exact six_cells (by simp [Addr.add]) (by simp [Addr.add]) (by simp [Addr.add]) (by simp [Addr.add]) (by simp [Addr.add]) (by simp [Addr.add])
                      case c2 => exact six_one
                      case c3 => exact hbnd1
                      case c4 => exact hbnd2
                      case c5 => exact hbnd3 _ (by (repeat (first | with_reducible exact Keeps.refl _ _ | with_reducible refine Keeps.alloc ?_ _ | with_reducible refine Keeps.drewN ?_ _ | with_reducible refine Keeps.drew ?_ | with_reducible refine Keeps.trans ?_ (by with_reducible assumption))))
                      intro v' w9 hown hgr _
                      have k9 := (grown_keeps hgr).mono (fun y _ h => (World.ownsRow.lt HI.out.1 y h).1))
                   | (go_simp; go_at_call 15; refine (file_ok _ _).mono ?_; rintro e w7 ⟨rfl, k7⟩; first | (have nb := block_keep (drew_at (alloc_new (w := wr) (o := .cells #[.int .i64 2, .int .i64 2, .int .i64 1, .int .i64 3] 3))) k7 (fun h => h); have n0 := cell_at (i := 0) nb rfl; have n1 := cell_at (i := 1) nb rfl; have n2 := cell_at (i := 2) nb rfl; have n3 := cell_at (i := 3) nb rfl) | (have nb := block_keep (alloc_new (w := World.drew wr) (o := .cells #[.int .i64 2, .int .i64 2, .int .i64 1, .int .i64 3] 3)) k7 (fun h => h); have n0 := cell_at (i := 0) nb rfl; have n1 := cell_at (i := 1) nb rfl; have n2 := cell_at (i := 2) nb rfl; have n3 := cell_at (i := 3) nb rfl) | (have nb := block_keep (alloc_new (w := wr) (o := .cells #[.int .i64 2, .int .i64 2, .int .i64 1, .int .i64 3] 3)) k7 (fun h => h); have n0 := cell_at (i := 0) nb rfl; have n1 := cell_at (i := 1) nb rfl; have n2 := cell_at (i := 2) nb rfl; have n3 := cell_at (i := 3) nb rfl) | skip)
                   | go_simp
                 refine hK.out _ _ ?_ (fun hHeld => ?_)
                 · (refine HS.out _ ?_; (repeat (first | with_reducible exact Keeps.refl _ _ | with_reducible refine Keeps.alloc ?_ _ | with_reducible refine Keeps.drewN ?_ _ | with_reducible refine Keeps.drew ?_ | with_reducible refine Keeps.trans ?_ (by with_reducible assumption) | with_reducible refine Keeps.trans ?_ (Keeps.up (by with_reducible assumption)))))
                 clear hK K
                 try dsimp only [Act.put, List.setIfInBounds_toArray, List.set_cons_zero, List.set_cons_succ]))
          refine TK.mk (wpAnyH_done (by kernel_rfl) ?_ _)
          refine NoPanic.normal ?_
          obtain ⟨o1, o2⟩ := tri_own HY.out HT.out HA.out.1 HB.out.1 HZ.out hown
          have kf : Keeps (fun _ => False) w w9 := Keeps.fresh (HI.out.2.up.trans (Keeps.trans (by (repeat (first | with_reducible exact Keeps.refl _ _ | with_reducible refine Keeps.alloc ?_ _ | with_reducible refine Keeps.drewN ?_ _ | with_reducible refine Keeps.drew ?_ | with_reducible refine Keeps.trans ?_ (by with_reducible assumption) | with_reducible refine Keeps.trans ?_ (Keeps.up (by with_reducible assumption))))) k9))
          have HF := hid (And.intro o1 (And.intro o2 kf))
          clear hown o1 o2 kf k9 hgr
          go_wp2_with fail
          exact ⟨⟨i + 1, by omega, rfl, by rw [HF.out.2.1], hid ⟨HF.out.1, HF.out.2.2⟩⟩, by simp [intOf]; omega⟩
        · go_simp
          refine hK.out _ _ ?_ (fun hHeld => ?_)
          · (refine HS.out _ ?_; (repeat (first | with_reducible exact Keeps.refl _ _ | with_reducible refine Keeps.alloc ?_ _ | with_reducible refine Keeps.drewN ?_ _ | with_reducible refine Keeps.drew ?_ | with_reducible refine Keeps.trans ?_ (by with_reducible assumption) | with_reducible refine Keeps.trans ?_ (Keeps.up (by with_reducible assumption)))))
          clear hK K
          try dsimp only [Act.put, List.setIfInBounds_toArray, List.set_cons_zero, List.set_cons_succ]
          refine TK.at [(false, 25)] ?_
          repeat (first
              | (refine TK.take (v := ?_) rfl (by kernel_rfl) (by kernel_rfl) (by kernel_rfl) (fun _ _ _ h => h) (Or.inl ⟨by rfl, ?_⟩) (by assumption) ?_
                 rotate_left
                 · (intro w hSw; (try dsimp only at hSw); simp only [List.getElem_toArray, List.getElem_cons_zero, List.getElem_cons_succ]; go_simp; (first | done | with_reducible rfl))
                 simp only [List.getElem_toArray, List.getElem_cons_zero, List.getElem_cons_succ, Act.put, List.setIfInBounds_toArray, List.set_cons_zero, List.set_cons_succ]))
          refine TK.mk ?_
          refine wpAnyH_ready (rs := [9, 26]) (by kernel_rfl) (by simp) (AllReadyH.cons rfl (fun K hK => ?_) (AllReadyH.cons rfl (fun K hK => ?_) AllReadyH.nil))
          · go_simp
            go_at_call 15; refine (file_ok _ _).mono ?_; rintro e w7 ⟨rfl, k7⟩; first | (have nb := block_keep (drew_at (alloc_new (w := wr) (o := .cells #[.int .i64 2, .int .i64 2, .int .i64 1, .int .i64 3] 3))) k7 (fun h => h); have n0 := cell_at (i := 0) nb rfl; have n1 := cell_at (i := 1) nb rfl; have n2 := cell_at (i := 2) nb rfl; have n3 := cell_at (i := 3) nb rfl) | (have nb := block_keep (alloc_new (w := World.drew wr) (o := .cells #[.int .i64 2, .int .i64 2, .int .i64 1, .int .i64 3] 3)) k7 (fun h => h); have n0 := cell_at (i := 0) nb rfl; have n1 := cell_at (i := 1) nb rfl; have n2 := cell_at (i := 2) nb rfl; have n3 := cell_at (i := 3) nb rfl) | (have nb := block_keep (alloc_new (w := wr) (o := .cells #[.int .i64 2, .int .i64 2, .int .i64 1, .int .i64 3] 3)) k7 (fun h => h); have n0 := cell_at (i := 0) nb rfl; have n1 := cell_at (i := 1) nb rfl; have n2 := cell_at (i := 2) nb rfl; have n3 := cell_at (i := 3) nb rfl) | skip
            refine hK.out _ _ ?_ (fun hHeld => ?_)
            · (refine HS.out _ ?_; (repeat (first | with_reducible exact Keeps.refl _ _ | with_reducible refine Keeps.alloc ?_ _ | with_reducible refine Keeps.drewN ?_ _ | with_reducible refine Keeps.drew ?_ | with_reducible refine Keeps.trans ?_ (by with_reducible assumption) | with_reducible refine Keeps.trans ?_ (Keeps.up (by with_reducible assumption)))))
            clear hK K
            try dsimp only [Act.put, List.setIfInBounds_toArray, List.set_cons_zero, List.set_cons_succ]
            refine TK.at [(true, 26), (false, 27), (true, 28), (true, 29), (true, 30)] ?_
            repeat (first
                | (refine TK.take (v := ?_) rfl (by kernel_rfl) (by kernel_rfl) (by kernel_rfl) (fun _ _ _ h => h) (Or.inl ⟨by rfl, ?_⟩) (by assumption) ?_
                   rotate_left
                   · (intro w hSw; (try dsimp only at hSw); simp only [List.getElem_toArray, List.getElem_cons_zero, List.getElem_cons_succ]; go_simp; (first | done | with_reducible rfl))
                   simp only [List.getElem_toArray, List.getElem_cons_zero, List.getElem_cons_succ, Act.put, List.setIfInBounds_toArray, List.set_cons_zero, List.set_cons_succ])
                | (refine TK.call (by kernel_rfl) rfl (fun K hK => ?_)
                   first
                     | (rw [if_pos (by rfl)]; refine wp_append_own _ _ _ 24 rfl w.heap.size 40 ri (.agg #[.int .i64 0, .int .i64 0, .int .i64 0, .int .u32 0, .int .i64 0, .int .i64 0]) 6 48 Tryz.underlying24 hi1 hi2 hi3 hi4 rfl (by decide) _ _ _ rfl (HI.out.1.keeps ?c0) _ 1 1 [.int .i64 (T + (x.k : Int) % 16), .int .i64 1, .int .i64 A, .int .u32 1, .int .i64 (1 + B), .int .i64 2] rfl rfl ?c1 ?c2 ?c3 ?c4 ?c5 ?_
                        case c0 => (repeat (first | with_reducible exact Keeps.refl _ _ | with_reducible refine Keeps.alloc ?_ _ | with_reducible refine Keeps.drewN ?_ _ | with_reducible refine Keeps.drew ?_ | with_reducible refine Keeps.trans ?_ (by with_reducible assumption)))
                        case c1 => exact six_cells (by simp [Addr.add]) (by simp [Addr.add]) (by simp [Addr.add]) (by simp [Addr.add]) (by simp [Addr.add]) (by simp [Addr.add])
                        case c2 => exact six_one
                        case c3 => exact hbnd1
                        case c4 => exact hbnd2
                        case c5 => exact hbnd3 _ (by (repeat (first | with_reducible exact Keeps.refl _ _ | with_reducible refine Keeps.alloc ?_ _ | with_reducible refine Keeps.drewN ?_ _ | with_reducible refine Keeps.drew ?_ | with_reducible refine Keeps.trans ?_ (by with_reducible assumption))))
                        intro v' w9 hown hgr _
                        have k9 := (grown_keeps hgr).mono (fun y _ h => (World.ownsRow.lt HI.out.1 y h).1))
                     | (go_simp; go_at_call 15; refine (file_ok _ _).mono ?_; rintro e w7 ⟨rfl, k7⟩; first | (have nb := block_keep (drew_at (alloc_new (w := wr) (o := .cells #[.int .i64 2, .int .i64 2, .int .i64 1, .int .i64 3] 3))) k7 (fun h => h); have n0 := cell_at (i := 0) nb rfl; have n1 := cell_at (i := 1) nb rfl; have n2 := cell_at (i := 2) nb rfl; have n3 := cell_at (i := 3) nb rfl) | (have nb := block_keep (alloc_new (w := World.drew wr) (o := .cells #[.int .i64 2, .int .i64 2, .int .i64 1, .int .i64 3] 3)) k7 (fun h => h); have n0 := cell_at (i := 0) nb rfl; have n1 := cell_at (i := 1) nb rfl; have n2 := cell_at (i := 2) nb rfl; have n3 := cell_at (i := 3) nb rfl) | (have nb := block_keep (alloc_new (w := wr) (o := .cells #[.int .i64 2, .int .i64 2, .int .i64 1, .int .i64 3] 3)) k7 (fun h => h); have n0 := cell_at (i := 0) nb rfl; have n1 := cell_at (i := 1) nb rfl; have n2 := cell_at (i := 2) nb rfl; have n3 := cell_at (i := 3) nb rfl) | skip)
                     | go_simp
                   refine hK.out _ _ ?_ (fun hHeld => ?_)
                   · (refine HS.out _ ?_; (repeat (first | with_reducible exact Keeps.refl _ _ | with_reducible refine Keeps.alloc ?_ _ | with_reducible refine Keeps.drewN ?_ _ | with_reducible refine Keeps.drew ?_ | with_reducible refine Keeps.trans ?_ (by with_reducible assumption) | with_reducible refine Keeps.trans ?_ (Keeps.up (by with_reducible assumption)))))
                   clear hK K
                   try dsimp only [Act.put, List.setIfInBounds_toArray, List.set_cons_zero, List.set_cons_succ]))
            refine TK.mk (wpAnyH_done (by kernel_rfl) ?_ _)
            refine NoPanic.normal ?_
            obtain ⟨o1, o2⟩ := tri_own HY.out HT.out HA.out.1 HB.out.1 HZ.out hown
            have kf : Keeps (fun _ => False) w w9 := Keeps.fresh (HI.out.2.up.trans (Keeps.trans (by (repeat (first | with_reducible exact Keeps.refl _ _ | with_reducible refine Keeps.alloc ?_ _ | with_reducible refine Keeps.drewN ?_ _ | with_reducible refine Keeps.drew ?_ | with_reducible refine Keeps.trans ?_ (by with_reducible assumption) | with_reducible refine Keeps.trans ?_ (Keeps.up (by with_reducible assumption))))) k9))
            have HF := hid (And.intro o1 (And.intro o2 kf))
            clear hown o1 o2 kf k9 hgr
            go_wp2_with fail
            exact ⟨⟨i + 1, by omega, rfl, by rw [HF.out.2.1], hid ⟨HF.out.1, HF.out.2.2⟩⟩, by simp [intOf]; omega⟩
          · go_simp
            refine hK.out _ _ ?_ (fun hHeld => ?_)
            · (refine HS.out _ ?_; (repeat (first | with_reducible exact Keeps.refl _ _ | with_reducible refine Keeps.alloc ?_ _ | with_reducible refine Keeps.drewN ?_ _ | with_reducible refine Keeps.drew ?_ | with_reducible refine Keeps.trans ?_ (by with_reducible assumption) | with_reducible refine Keeps.trans ?_ (Keeps.up (by with_reducible assumption)))))
            clear hK K
            try dsimp only [Act.put, List.setIfInBounds_toArray, List.set_cons_zero, List.set_cons_succ]
            refine TK.at [(true, 9), (false, 27), (true, 28), (true, 29), (true, 30)] ?_
            repeat (first
                | (refine TK.take (v := ?_) rfl (by kernel_rfl) (by kernel_rfl) (by kernel_rfl) (fun _ _ _ h => h) (Or.inl ⟨by rfl, ?_⟩) (by assumption) ?_
                   rotate_left
                   · (intro w hSw; (try dsimp only at hSw); simp only [List.getElem_toArray, List.getElem_cons_zero, List.getElem_cons_succ]; go_simp; (first | done | with_reducible rfl))
                   simp only [List.getElem_toArray, List.getElem_cons_zero, List.getElem_cons_succ, Act.put, List.setIfInBounds_toArray, List.set_cons_zero, List.set_cons_succ])
                | (refine TK.call (by kernel_rfl) rfl (fun K hK => ?_)
                   first
                     | (rw [if_pos (by rfl)]; refine wp_append_own _ _ _ 24 rfl w.heap.size 40 ri (.agg #[.int .i64 0, .int .i64 0, .int .i64 0, .int .u32 0, .int .i64 0, .int .i64 0]) 6 48 Tryz.underlying24 hi1 hi2 hi3 hi4 rfl (by decide) _ _ _ rfl (HI.out.1.keeps ?c0) _ 1 1 [.int .i64 (T + (x.k : Int) % 16), .int .i64 1, .int .i64 A, .int .u32 1, .int .i64 (1 + B), .int .i64 2] rfl rfl ?c1 ?c2 ?c3 ?c4 ?c5 ?_
                        case c0 => (repeat (first | with_reducible exact Keeps.refl _ _ | with_reducible refine Keeps.alloc ?_ _ | with_reducible refine Keeps.drewN ?_ _ | with_reducible refine Keeps.drew ?_ | with_reducible refine Keeps.trans ?_ (by with_reducible assumption)))
                        case c1 => exact six_cells (by simp [Addr.add]) (by simp [Addr.add]) (by simp [Addr.add]) (by simp [Addr.add]) (by simp [Addr.add]) (by simp [Addr.add])
                        case c2 => exact six_one
                        case c3 => exact hbnd1
                        case c4 => exact hbnd2
                        case c5 => exact hbnd3 _ (by (repeat (first | with_reducible exact Keeps.refl _ _ | with_reducible refine Keeps.alloc ?_ _ | with_reducible refine Keeps.drewN ?_ _ | with_reducible refine Keeps.drew ?_ | with_reducible refine Keeps.trans ?_ (by with_reducible assumption))))
                        intro v' w9 hown hgr _
                        have k9 := (grown_keeps hgr).mono (fun y _ h => (World.ownsRow.lt HI.out.1 y h).1))
                     | (go_simp; go_at_call 15; refine (file_ok _ _).mono ?_; rintro e w7 ⟨rfl, k7⟩; first | (have nb := block_keep (drew_at (alloc_new (w := wr) (o := .cells #[.int .i64 2, .int .i64 2, .int .i64 1, .int .i64 3] 3))) k7 (fun h => h); have n0 := cell_at (i := 0) nb rfl; have n1 := cell_at (i := 1) nb rfl; have n2 := cell_at (i := 2) nb rfl; have n3 := cell_at (i := 3) nb rfl) | (have nb := block_keep (alloc_new (w := World.drew wr) (o := .cells #[.int .i64 2, .int .i64 2, .int .i64 1, .int .i64 3] 3)) k7 (fun h => h); have n0 := cell_at (i := 0) nb rfl; have n1 := cell_at (i := 1) nb rfl; have n2 := cell_at (i := 2) nb rfl; have n3 := cell_at (i := 3) nb rfl) | (have nb := block_keep (alloc_new (w := wr) (o := .cells #[.int .i64 2, .int .i64 2, .int .i64 1, .int .i64 3] 3)) k7 (fun h => h); have n0 := cell_at (i := 0) nb rfl; have n1 := cell_at (i := 1) nb rfl; have n2 := cell_at (i := 2) nb rfl; have n3 := cell_at (i := 3) nb rfl) | skip)
                     | go_simp
                   refine hK.out _ _ ?_ (fun hHeld => ?_)
                   · (refine HS.out _ ?_; (repeat (first | with_reducible exact Keeps.refl _ _ | with_reducible refine Keeps.alloc ?_ _ | with_reducible refine Keeps.drewN ?_ _ | with_reducible refine Keeps.drew ?_ | with_reducible refine Keeps.trans ?_ (by with_reducible assumption) | with_reducible refine Keeps.trans ?_ (Keeps.up (by with_reducible assumption)))))
                   clear hK K
                   try dsimp only [Act.put, List.setIfInBounds_toArray, List.set_cons_zero, List.set_cons_succ]))
            refine TK.mk (wpAnyH_done (by kernel_rfl) ?_ _)
            refine NoPanic.normal ?_
            obtain ⟨o1, o2⟩ := tri_own HY.out HT.out HA.out.1 HB.out.1 HZ.out hown
            have kf : Keeps (fun _ => False) w w9 := Keeps.fresh (HI.out.2.up.trans (Keeps.trans (by (repeat (first | with_reducible exact Keeps.refl _ _ | with_reducible refine Keeps.alloc ?_ _ | with_reducible refine Keeps.drewN ?_ _ | with_reducible refine Keeps.drew ?_ | with_reducible refine Keeps.trans ?_ (by with_reducible assumption) | with_reducible refine Keeps.trans ?_ (Keeps.up (by with_reducible assumption))))) k9))
            have HF := hid (And.intro o1 (And.intro o2 kf))
            clear hown o1 o2 kf k9 hgr
            go_wp2_with fail
            exact ⟨⟨i + 1, by omega, rfl, by rw [HF.out.2.1], hid ⟨HF.out.1, HF.out.2.2⟩⟩, by simp [intOf]; omega⟩
      · have HZ := hid hz5
        clear hz5
        go_wp2_with fail
        refine wp_region_noPanic ?_
        refine wp_region_held_drew (S := (fun W => W.cell? ⟨b, off + i * 4, none⟩ = some (.int .u8 x.w) ∧ W.cell? ⟨b, off + i * 4 + 2, none⟩ = some (.int .u8 x.y) ∧ W.cell? ⟨b, off + i * 4 + 3, none⟩ = some (.int .u8 x.s))) (by kernel_rfl) ?_ (fun hHeld => ?_)
        · exact HS.out _ (Keeps.refl _ _).drew
        refine TK.at [(false, 0), (false, 1), (false, 2), (false, 3), (false, 4), (false, 5), (false, 6), (false, 7), (false, 8), (false, 10), (false, 11), (false, 12), (false, 13), (false, 14), (false, 15), (false, 16), (false, 17), (false, 19), (false, 20), (false, 21), (false, 22), (false, 23), (false, 24)] ?_
        repeat (first
            | (refine TK.take (v := ?_) rfl (by kernel_rfl) (by kernel_rfl) (by kernel_rfl) (fun _ _ _ h => h) (Or.inl ⟨by rfl, ?_⟩) (by assumption) ?_
               rotate_left
               · (intro w hSw; (try dsimp only at hSw); simp only [List.getElem_toArray, List.getElem_cons_zero, List.getElem_cons_succ]; go_simp; (first | done | with_reducible rfl))
               simp only [List.getElem_toArray, List.getElem_cons_zero, List.getElem_cons_succ, Act.put, List.setIfInBounds_toArray, List.set_cons_zero, List.set_cons_succ]))
        refine TK.mk ?_
        refine wpAnyH_ready (rs := [9, 18]) (by kernel_rfl) (by simp) (AllReadyH.cons rfl (fun K hK => ?_) (AllReadyH.cons rfl (fun K hK => ?_) AllReadyH.nil))
        · go_simp
          go_at_call 15; refine (file_ok _ _).mono ?_; rintro e w7 ⟨rfl, k7⟩; first | (have nb := block_keep (drew_at (alloc_new (w := wr) (o := .cells #[.int .i64 2, .int .i64 2, .int .i64 1, .int .i64 3] 3))) k7 (fun h => h); have n0 := cell_at (i := 0) nb rfl; have n1 := cell_at (i := 1) nb rfl; have n2 := cell_at (i := 2) nb rfl; have n3 := cell_at (i := 3) nb rfl) | (have nb := block_keep (alloc_new (w := World.drew wr) (o := .cells #[.int .i64 2, .int .i64 2, .int .i64 1, .int .i64 3] 3)) k7 (fun h => h); have n0 := cell_at (i := 0) nb rfl; have n1 := cell_at (i := 1) nb rfl; have n2 := cell_at (i := 2) nb rfl; have n3 := cell_at (i := 3) nb rfl) | (have nb := block_keep (alloc_new (w := wr) (o := .cells #[.int .i64 2, .int .i64 2, .int .i64 1, .int .i64 3] 3)) k7 (fun h => h); have n0 := cell_at (i := 0) nb rfl; have n1 := cell_at (i := 1) nb rfl; have n2 := cell_at (i := 2) nb rfl; have n3 := cell_at (i := 3) nb rfl) | skip
          refine hK.out _ _ ?_ (fun hHeld => ?_)
          · (refine HS.out _ ?_; (repeat (first | with_reducible exact Keeps.refl _ _ | with_reducible refine Keeps.alloc ?_ _ | with_reducible refine Keeps.drewN ?_ _ | with_reducible refine Keeps.drew ?_ | with_reducible refine Keeps.trans ?_ (by with_reducible assumption) | with_reducible refine Keeps.trans ?_ (Keeps.up (by with_reducible assumption)))))
          clear hK K
          try dsimp only [Act.put, List.setIfInBounds_toArray, List.set_cons_zero, List.set_cons_succ]
          refine TK.at [(true, 18), (false, 25), (true, 26), (false, 27), (true, 28), (true, 29), (true, 30)] ?_
          repeat (first
              | (refine TK.take (v := ?_) rfl (by kernel_rfl) (by kernel_rfl) (by kernel_rfl) (fun _ _ _ h => h) (Or.inl ⟨by rfl, ?_⟩) (by assumption) ?_
                 rotate_left
                 · (intro w hSw; (try dsimp only at hSw); simp only [List.getElem_toArray, List.getElem_cons_zero, List.getElem_cons_succ]; go_simp; (first | done | with_reducible rfl))
                 simp only [List.getElem_toArray, List.getElem_cons_zero, List.getElem_cons_succ, Act.put, List.setIfInBounds_toArray, List.set_cons_zero, List.set_cons_succ])
              | (refine TK.call (by kernel_rfl) rfl (fun K hK => ?_)
                 first
                   | (rw [if_pos (by rfl)]; refine wp_append_own _ _ _ 24 rfl w.heap.size 40 ri (.agg #[.int .i64 0, .int .i64 0, .int .i64 0, .int .u32 0, .int .i64 0, .int .i64 0]) 6 48 Tryz.underlying24 hi1 hi2 hi3 hi4 rfl (by decide) _ _ _ rfl (HI.out.1.keeps ?c0) _ 1 1 [.int .i64 (T + (x.k : Int) % 16), .int .i64 1, .int .i64 A, .int .u32 1, .int .i64 (1 + B), .int .i64 1] rfl rfl ?c1 ?c2 ?c3 ?c4 ?c5 ?_
                      case c0 => (repeat (first | with_reducible exact Keeps.refl _ _ | with_reducible refine Keeps.alloc ?_ _ | with_reducible refine Keeps.drewN ?_ _ | with_reducible refine Keeps.drew ?_ | with_reducible refine Keeps.trans ?_ (by with_reducible assumption)))
                      case c1 => exact six_cells (by simp [Addr.add]) (by simp [Addr.add]) (by simp [Addr.add]) (by simp [Addr.add]) (by simp [Addr.add]) (by simp [Addr.add])
                      case c2 => exact six_one
                      case c3 => exact hbnd1
                      case c4 => exact hbnd2
                      case c5 => exact hbnd3 _ (by (repeat (first | with_reducible exact Keeps.refl _ _ | with_reducible refine Keeps.alloc ?_ _ | with_reducible refine Keeps.drewN ?_ _ | with_reducible refine Keeps.drew ?_ | with_reducible refine Keeps.trans ?_ (by with_reducible assumption))))
                      intro v' w9 hown hgr _
                      have k9 := (grown_keeps hgr).mono (fun y _ h => (World.ownsRow.lt HI.out.1 y h).1))
                   | (go_simp; go_at_call 15; refine (file_ok _ _).mono ?_; rintro e w7 ⟨rfl, k7⟩; first | (have nb := block_keep (drew_at (alloc_new (w := wr) (o := .cells #[.int .i64 2, .int .i64 2, .int .i64 1, .int .i64 3] 3))) k7 (fun h => h); have n0 := cell_at (i := 0) nb rfl; have n1 := cell_at (i := 1) nb rfl; have n2 := cell_at (i := 2) nb rfl; have n3 := cell_at (i := 3) nb rfl) | (have nb := block_keep (alloc_new (w := World.drew wr) (o := .cells #[.int .i64 2, .int .i64 2, .int .i64 1, .int .i64 3] 3)) k7 (fun h => h); have n0 := cell_at (i := 0) nb rfl; have n1 := cell_at (i := 1) nb rfl; have n2 := cell_at (i := 2) nb rfl; have n3 := cell_at (i := 3) nb rfl) | (have nb := block_keep (alloc_new (w := wr) (o := .cells #[.int .i64 2, .int .i64 2, .int .i64 1, .int .i64 3] 3)) k7 (fun h => h); have n0 := cell_at (i := 0) nb rfl; have n1 := cell_at (i := 1) nb rfl; have n2 := cell_at (i := 2) nb rfl; have n3 := cell_at (i := 3) nb rfl) | skip)
                   | go_simp
                 refine hK.out _ _ ?_ (fun hHeld => ?_)
                 · (refine HS.out _ ?_; (repeat (first | with_reducible exact Keeps.refl _ _ | with_reducible refine Keeps.alloc ?_ _ | with_reducible refine Keeps.drewN ?_ _ | with_reducible refine Keeps.drew ?_ | with_reducible refine Keeps.trans ?_ (by with_reducible assumption) | with_reducible refine Keeps.trans ?_ (Keeps.up (by with_reducible assumption)))))
                 clear hK K
                 try dsimp only [Act.put, List.setIfInBounds_toArray, List.set_cons_zero, List.set_cons_succ]))
          refine TK.mk (wpAnyH_done (by kernel_rfl) ?_ _)
          refine NoPanic.normal ?_
          obtain ⟨o1, o2⟩ := tri_own HY.out HT.out HA.out.1 HB.out.1 HZ.out hown
          have kf : Keeps (fun _ => False) w w9 := Keeps.fresh (HI.out.2.up.trans (Keeps.trans (by (repeat (first | with_reducible exact Keeps.refl _ _ | with_reducible refine Keeps.alloc ?_ _ | with_reducible refine Keeps.drewN ?_ _ | with_reducible refine Keeps.drew ?_ | with_reducible refine Keeps.trans ?_ (by with_reducible assumption) | with_reducible refine Keeps.trans ?_ (Keeps.up (by with_reducible assumption))))) k9))
          have HF := hid (And.intro o1 (And.intro o2 kf))
          clear hown o1 o2 kf k9 hgr
          go_wp2_with fail
          exact ⟨⟨i + 1, by omega, rfl, by rw [HF.out.2.1], hid ⟨HF.out.1, HF.out.2.2⟩⟩, by simp [intOf]; omega⟩
        · go_simp
          refine hK.out _ _ ?_ (fun hHeld => ?_)
          · (refine HS.out _ ?_; (repeat (first | with_reducible exact Keeps.refl _ _ | with_reducible refine Keeps.alloc ?_ _ | with_reducible refine Keeps.drewN ?_ _ | with_reducible refine Keeps.drew ?_ | with_reducible refine Keeps.trans ?_ (by with_reducible assumption) | with_reducible refine Keeps.trans ?_ (Keeps.up (by with_reducible assumption)))))
          clear hK K
          try dsimp only [Act.put, List.setIfInBounds_toArray, List.set_cons_zero, List.set_cons_succ]
          refine TK.at [(false, 25)] ?_
          repeat (first
              | (refine TK.take (v := ?_) rfl (by kernel_rfl) (by kernel_rfl) (by kernel_rfl) (fun _ _ _ h => h) (Or.inl ⟨by rfl, ?_⟩) (by assumption) ?_
                 rotate_left
                 · (intro w hSw; (try dsimp only at hSw); simp only [List.getElem_toArray, List.getElem_cons_zero, List.getElem_cons_succ]; go_simp; (first | done | with_reducible rfl))
                 simp only [List.getElem_toArray, List.getElem_cons_zero, List.getElem_cons_succ, Act.put, List.setIfInBounds_toArray, List.set_cons_zero, List.set_cons_succ]))
          refine TK.mk ?_
          refine wpAnyH_ready (rs := [9, 26]) (by kernel_rfl) (by simp) (AllReadyH.cons rfl (fun K hK => ?_) (AllReadyH.cons rfl (fun K hK => ?_) AllReadyH.nil))
          · go_simp
            go_at_call 15; refine (file_ok _ _).mono ?_; rintro e w7 ⟨rfl, k7⟩; first | (have nb := block_keep (drew_at (alloc_new (w := wr) (o := .cells #[.int .i64 2, .int .i64 2, .int .i64 1, .int .i64 3] 3))) k7 (fun h => h); have n0 := cell_at (i := 0) nb rfl; have n1 := cell_at (i := 1) nb rfl; have n2 := cell_at (i := 2) nb rfl; have n3 := cell_at (i := 3) nb rfl) | (have nb := block_keep (alloc_new (w := World.drew wr) (o := .cells #[.int .i64 2, .int .i64 2, .int .i64 1, .int .i64 3] 3)) k7 (fun h => h); have n0 := cell_at (i := 0) nb rfl; have n1 := cell_at (i := 1) nb rfl; have n2 := cell_at (i := 2) nb rfl; have n3 := cell_at (i := 3) nb rfl) | (have nb := block_keep (alloc_new (w := wr) (o := .cells #[.int .i64 2, .int .i64 2, .int .i64 1, .int .i64 3] 3)) k7 (fun h => h); have n0 := cell_at (i := 0) nb rfl; have n1 := cell_at (i := 1) nb rfl; have n2 := cell_at (i := 2) nb rfl; have n3 := cell_at (i := 3) nb rfl) | skip
            refine hK.out _ _ ?_ (fun hHeld => ?_)
            · (refine HS.out _ ?_; (repeat (first | with_reducible exact Keeps.refl _ _ | with_reducible refine Keeps.alloc ?_ _ | with_reducible refine Keeps.drewN ?_ _ | with_reducible refine Keeps.drew ?_ | with_reducible refine Keeps.trans ?_ (by with_reducible assumption) | with_reducible refine Keeps.trans ?_ (Keeps.up (by with_reducible assumption)))))
            clear hK K
            try dsimp only [Act.put, List.setIfInBounds_toArray, List.set_cons_zero, List.set_cons_succ]
            refine TK.at [(true, 26), (false, 27), (true, 28), (true, 29), (true, 30)] ?_
            repeat (first
                | (refine TK.take (v := ?_) rfl (by kernel_rfl) (by kernel_rfl) (by kernel_rfl) (fun _ _ _ h => h) (Or.inl ⟨by rfl, ?_⟩) (by assumption) ?_
                   rotate_left
                   · (intro w hSw; (try dsimp only at hSw); simp only [List.getElem_toArray, List.getElem_cons_zero, List.getElem_cons_succ]; go_simp; (first | done | with_reducible rfl))
                   simp only [List.getElem_toArray, List.getElem_cons_zero, List.getElem_cons_succ, Act.put, List.setIfInBounds_toArray, List.set_cons_zero, List.set_cons_succ])
                | (refine TK.call (by kernel_rfl) rfl (fun K hK => ?_)
                   first
                     | (rw [if_pos (by rfl)]; refine wp_append_own _ _ _ 24 rfl w.heap.size 40 ri (.agg #[.int .i64 0, .int .i64 0, .int .i64 0, .int .u32 0, .int .i64 0, .int .i64 0]) 6 48 Tryz.underlying24 hi1 hi2 hi3 hi4 rfl (by decide) _ _ _ rfl (HI.out.1.keeps ?c0) _ 1 1 [.int .i64 (T + (x.k : Int) % 16), .int .i64 1, .int .i64 A, .int .u32 1, .int .i64 (1 + B), .int .i64 1] rfl rfl ?c1 ?c2 ?c3 ?c4 ?c5 ?_
                        case c0 => (repeat (first | with_reducible exact Keeps.refl _ _ | with_reducible refine Keeps.alloc ?_ _ | with_reducible refine Keeps.drewN ?_ _ | with_reducible refine Keeps.drew ?_ | with_reducible refine Keeps.trans ?_ (by with_reducible assumption)))
                        case c1 => exact six_cells (by simp [Addr.add]) (by simp [Addr.add]) (by simp [Addr.add]) (by simp [Addr.add]) (by simp [Addr.add]) (by simp [Addr.add])
                        case c2 => exact six_one
                        case c3 => exact hbnd1
                        case c4 => exact hbnd2
                        case c5 => exact hbnd3 _ (by (repeat (first | with_reducible exact Keeps.refl _ _ | with_reducible refine Keeps.alloc ?_ _ | with_reducible refine Keeps.drewN ?_ _ | with_reducible refine Keeps.drew ?_ | with_reducible refine Keeps.trans ?_ (by with_reducible assumption))))
                        intro v' w9 hown hgr _
                        have k9 := (grown_keeps hgr).mono (fun y _ h => (World.ownsRow.lt HI.out.1 y h).1))
                     | (go_simp; go_at_call 15; refine (file_ok _ _).mono ?_; rintro e w7 ⟨rfl, k7⟩; first | (have nb := block_keep (drew_at (alloc_new (w := wr) (o := .cells #[.int .i64 2, .int .i64 2, .int .i64 1, .int .i64 3] 3))) k7 (fun h => h); have n0 := cell_at (i := 0) nb rfl; have n1 := cell_at (i := 1) nb rfl; have n2 := cell_at (i := 2) nb rfl; have n3 := cell_at (i := 3) nb rfl) | (have nb := block_keep (alloc_new (w := World.drew wr) (o := .cells #[.int .i64 2, .int .i64 2, .int .i64 1, .int .i64 3] 3)) k7 (fun h => h); have n0 := cell_at (i := 0) nb rfl; have n1 := cell_at (i := 1) nb rfl; have n2 := cell_at (i := 2) nb rfl; have n3 := cell_at (i := 3) nb rfl) | (have nb := block_keep (alloc_new (w := wr) (o := .cells #[.int .i64 2, .int .i64 2, .int .i64 1, .int .i64 3] 3)) k7 (fun h => h); have n0 := cell_at (i := 0) nb rfl; have n1 := cell_at (i := 1) nb rfl; have n2 := cell_at (i := 2) nb rfl; have n3 := cell_at (i := 3) nb rfl) | skip)
                     | go_simp
                   refine hK.out _ _ ?_ (fun hHeld => ?_)
                   · (refine HS.out _ ?_; (repeat (first | with_reducible exact Keeps.refl _ _ | with_reducible refine Keeps.alloc ?_ _ | with_reducible refine Keeps.drewN ?_ _ | with_reducible refine Keeps.drew ?_ | with_reducible refine Keeps.trans ?_ (by with_reducible assumption) | with_reducible refine Keeps.trans ?_ (Keeps.up (by with_reducible assumption)))))
                   clear hK K
                   try dsimp only [Act.put, List.setIfInBounds_toArray, List.set_cons_zero, List.set_cons_succ]))
            refine TK.mk (wpAnyH_done (by kernel_rfl) ?_ _)
            refine NoPanic.normal ?_
            obtain ⟨o1, o2⟩ := tri_own HY.out HT.out HA.out.1 HB.out.1 HZ.out hown
            have kf : Keeps (fun _ => False) w w9 := Keeps.fresh (HI.out.2.up.trans (Keeps.trans (by (repeat (first | with_reducible exact Keeps.refl _ _ | with_reducible refine Keeps.alloc ?_ _ | with_reducible refine Keeps.drewN ?_ _ | with_reducible refine Keeps.drew ?_ | with_reducible refine Keeps.trans ?_ (by with_reducible assumption) | with_reducible refine Keeps.trans ?_ (Keeps.up (by with_reducible assumption))))) k9))
            have HF := hid (And.intro o1 (And.intro o2 kf))
            clear hown o1 o2 kf k9 hgr
            go_wp2_with fail
            exact ⟨⟨i + 1, by omega, rfl, by rw [HF.out.2.1], hid ⟨HF.out.1, HF.out.2.2⟩⟩, by simp [intOf]; omega⟩
          · go_simp
            refine hK.out _ _ ?_ (fun hHeld => ?_)
            · (refine HS.out _ ?_; (repeat (first | with_reducible exact Keeps.refl _ _ | with_reducible refine Keeps.alloc ?_ _ | with_reducible refine Keeps.drewN ?_ _ | with_reducible refine Keeps.drew ?_ | with_reducible refine Keeps.trans ?_ (by with_reducible assumption) | with_reducible refine Keeps.trans ?_ (Keeps.up (by with_reducible assumption)))))
            clear hK K
            try dsimp only [Act.put, List.setIfInBounds_toArray, List.set_cons_zero, List.set_cons_succ]
            refine TK.at [(true, 9), (false, 27), (true, 28), (true, 29), (true, 30)] ?_
            repeat (first
                | (refine TK.take (v := ?_) rfl (by kernel_rfl) (by kernel_rfl) (by kernel_rfl) (fun _ _ _ h => h) (Or.inl ⟨by rfl, ?_⟩) (by assumption) ?_
                   rotate_left
                   · (intro w hSw; (try dsimp only at hSw); simp only [List.getElem_toArray, List.getElem_cons_zero, List.getElem_cons_succ]; go_simp; (first | done | with_reducible rfl))
                   simp only [List.getElem_toArray, List.getElem_cons_zero, List.getElem_cons_succ, Act.put, List.setIfInBounds_toArray, List.set_cons_zero, List.set_cons_succ])
                | (refine TK.call (by kernel_rfl) rfl (fun K hK => ?_)
                   first
                     | (rw [if_pos (by rfl)]; refine wp_append_own _ _ _ 24 rfl w.heap.size 40 ri (.agg #[.int .i64 0, .int .i64 0, .int .i64 0, .int .u32 0, .int .i64 0, .int .i64 0]) 6 48 Tryz.underlying24 hi1 hi2 hi3 hi4 rfl (by decide) _ _ _ rfl (HI.out.1.keeps ?c0) _ 1 1 [.int .i64 (T + (x.k : Int) % 16), .int .i64 1, .int .i64 A, .int .u32 1, .int .i64 (1 + B), .int .i64 1] rfl rfl ?c1 ?c2 ?c3 ?c4 ?c5 ?_
                        case c0 => (repeat (first | with_reducible exact Keeps.refl _ _ | with_reducible refine Keeps.alloc ?_ _ | with_reducible refine Keeps.drewN ?_ _ | with_reducible refine Keeps.drew ?_ | with_reducible refine Keeps.trans ?_ (by with_reducible assumption)))
                        case c1 => exact six_cells (by simp [Addr.add]) (by simp [Addr.add]) (by simp [Addr.add]) (by simp [Addr.add]) (by simp [Addr.add]) (by simp [Addr.add])
                        case c2 => exact six_one
                        case c3 => exact hbnd1
                        case c4 => exact hbnd2
                        case c5 => exact hbnd3 _ (by (repeat (first | with_reducible exact Keeps.refl _ _ | with_reducible refine Keeps.alloc ?_ _ | with_reducible refine Keeps.drewN ?_ _ | with_reducible refine Keeps.drew ?_ | with_reducible refine Keeps.trans ?_ (by with_reducible assumption))))
                        intro v' w9 hown hgr _
                        have k9 := (grown_keeps hgr).mono (fun y _ h => (World.ownsRow.lt HI.out.1 y h).1))
                     | (go_simp; go_at_call 15; refine (file_ok _ _).mono ?_; rintro e w7 ⟨rfl, k7⟩; first | (have nb := block_keep (drew_at (alloc_new (w := wr) (o := .cells #[.int .i64 2, .int .i64 2, .int .i64 1, .int .i64 3] 3))) k7 (fun h => h); have n0 := cell_at (i := 0) nb rfl; have n1 := cell_at (i := 1) nb rfl; have n2 := cell_at (i := 2) nb rfl; have n3 := cell_at (i := 3) nb rfl) | (have nb := block_keep (alloc_new (w := World.drew wr) (o := .cells #[.int .i64 2, .int .i64 2, .int .i64 1, .int .i64 3] 3)) k7 (fun h => h); have n0 := cell_at (i := 0) nb rfl; have n1 := cell_at (i := 1) nb rfl; have n2 := cell_at (i := 2) nb rfl; have n3 := cell_at (i := 3) nb rfl) | (have nb := block_keep (alloc_new (w := wr) (o := .cells #[.int .i64 2, .int .i64 2, .int .i64 1, .int .i64 3] 3)) k7 (fun h => h); have n0 := cell_at (i := 0) nb rfl; have n1 := cell_at (i := 1) nb rfl; have n2 := cell_at (i := 2) nb rfl; have n3 := cell_at (i := 3) nb rfl) | skip)
                     | go_simp
                   refine hK.out _ _ ?_ (fun hHeld => ?_)
                   · (refine HS.out _ ?_; (repeat (first | with_reducible exact Keeps.refl _ _ | with_reducible refine Keeps.alloc ?_ _ | with_reducible refine Keeps.drewN ?_ _ | with_reducible refine Keeps.drew ?_ | with_reducible refine Keeps.trans ?_ (by with_reducible assumption) | with_reducible refine Keeps.trans ?_ (Keeps.up (by with_reducible assumption)))))
                   clear hK K
                   try dsimp only [Act.put, List.setIfInBounds_toArray, List.set_cons_zero, List.set_cons_succ]))
            refine TK.mk (wpAnyH_done (by kernel_rfl) ?_ _)
            refine NoPanic.normal ?_
            obtain ⟨o1, o2⟩ := tri_own HY.out HT.out HA.out.1 HB.out.1 HZ.out hown
            have kf : Keeps (fun _ => False) w w9 := Keeps.fresh (HI.out.2.up.trans (Keeps.trans (by (repeat (first | with_reducible exact Keeps.refl _ _ | with_reducible refine Keeps.alloc ?_ _ | with_reducible refine Keeps.drewN ?_ _ | with_reducible refine Keeps.drew ?_ | with_reducible refine Keeps.trans ?_ (by with_reducible assumption) | with_reducible refine Keeps.trans ?_ (Keeps.up (by with_reducible assumption))))) k9))
            have HF := hid (And.intro o1 (And.intro o2 kf))
            clear hown o1 o2 kf k9 hgr
            go_wp2_with fail
            exact ⟨⟨i + 1, by omega, rfl, by rw [HF.out.2.1], hid ⟨HF.out.1, HF.out.2.2⟩⟩, by simp [intOf]; omega⟩
      · have HZ := hid hz5
        clear hz5
        go_wp2_with fail
        refine wp_region_noPanic ?_
        refine wp_region_held_drew (S := (fun W => W.cell? ⟨b, off + i * 4, none⟩ = some (.int .u8 x.w) ∧ W.cell? ⟨b, off + i * 4 + 2, none⟩ = some (.int .u8 x.y) ∧ W.cell? ⟨b, off + i * 4 + 3, none⟩ = some (.int .u8 x.s))) (by kernel_rfl) ?_ (fun hHeld => ?_)
        · exact HS.out _ (Keeps.refl _ _).drew
        refine TK.at [(false, 0), (false, 1), (false, 2), (false, 3), (false, 4), (false, 5), (false, 6), (false, 7), (false, 8), (false, 10), (false, 11), (false, 12), (false, 13), (false, 14), (false, 15), (false, 16), (false, 17), (false, 19), (false, 20), (false, 21), (false, 22), (false, 23), (false, 24)] ?_
        repeat (first
            | (refine TK.take (v := ?_) rfl (by kernel_rfl) (by kernel_rfl) (by kernel_rfl) (fun _ _ _ h => h) (Or.inl ⟨by rfl, ?_⟩) (by assumption) ?_
               rotate_left
               · (intro w hSw; (try dsimp only at hSw); simp only [List.getElem_toArray, List.getElem_cons_zero, List.getElem_cons_succ]; go_simp; (first | done | with_reducible rfl))
               simp only [List.getElem_toArray, List.getElem_cons_zero, List.getElem_cons_succ, Act.put, List.setIfInBounds_toArray, List.set_cons_zero, List.set_cons_succ]))
        refine TK.mk ?_
        refine wpAnyH_ready (rs := [9, 18]) (by kernel_rfl) (by simp) (AllReadyH.cons rfl (fun K hK => ?_) (AllReadyH.cons rfl (fun K hK => ?_) AllReadyH.nil))
        · go_simp
          go_at_call 15; refine (file_ok _ _).mono ?_; rintro e w7 ⟨rfl, k7⟩; first | (have nb := block_keep (drew_at (alloc_new (w := wr) (o := .cells #[.int .i64 2, .int .i64 2, .int .i64 1, .int .i64 3] 3))) k7 (fun h => h); have n0 := cell_at (i := 0) nb rfl; have n1 := cell_at (i := 1) nb rfl; have n2 := cell_at (i := 2) nb rfl; have n3 := cell_at (i := 3) nb rfl) | (have nb := block_keep (alloc_new (w := World.drew wr) (o := .cells #[.int .i64 2, .int .i64 2, .int .i64 1, .int .i64 3] 3)) k7 (fun h => h); have n0 := cell_at (i := 0) nb rfl; have n1 := cell_at (i := 1) nb rfl; have n2 := cell_at (i := 2) nb rfl; have n3 := cell_at (i := 3) nb rfl) | (have nb := block_keep (alloc_new (w := wr) (o := .cells #[.int .i64 2, .int .i64 2, .int .i64 1, .int .i64 3] 3)) k7 (fun h => h); have n0 := cell_at (i := 0) nb rfl; have n1 := cell_at (i := 1) nb rfl; have n2 := cell_at (i := 2) nb rfl; have n3 := cell_at (i := 3) nb rfl) | skip
          refine hK.out _ _ ?_ (fun hHeld => ?_)
          · (refine HS.out _ ?_; (repeat (first | with_reducible exact Keeps.refl _ _ | with_reducible refine Keeps.alloc ?_ _ | with_reducible refine Keeps.drewN ?_ _ | with_reducible refine Keeps.drew ?_ | with_reducible refine Keeps.trans ?_ (by with_reducible assumption) | with_reducible refine Keeps.trans ?_ (Keeps.up (by with_reducible assumption)))))
          clear hK K
          try dsimp only [Act.put, List.setIfInBounds_toArray, List.set_cons_zero, List.set_cons_succ]
          refine TK.at [(true, 18), (false, 25), (true, 26), (false, 27), (true, 28), (true, 29), (true, 30)] ?_
          repeat (first
              | (refine TK.take (v := ?_) rfl (by kernel_rfl) (by kernel_rfl) (by kernel_rfl) (fun _ _ _ h => h) (Or.inl ⟨by rfl, ?_⟩) (by assumption) ?_
                 rotate_left
                 · (intro w hSw; (try dsimp only at hSw); simp only [List.getElem_toArray, List.getElem_cons_zero, List.getElem_cons_succ]; go_simp; (first | done | with_reducible rfl))
                 simp only [List.getElem_toArray, List.getElem_cons_zero, List.getElem_cons_succ, Act.put, List.setIfInBounds_toArray, List.set_cons_zero, List.set_cons_succ])
              | (refine TK.call (by kernel_rfl) rfl (fun K hK => ?_)
                 first
                   | (rw [if_pos (by rfl)]; refine wp_append_own _ _ _ 24 rfl w.heap.size 40 ri (.agg #[.int .i64 0, .int .i64 0, .int .i64 0, .int .u32 0, .int .i64 0, .int .i64 0]) 6 48 Tryz.underlying24 hi1 hi2 hi3 hi4 rfl (by decide) _ _ _ rfl (HI.out.1.keeps ?c0) _ 1 1 [.int .i64 (T + (x.k : Int) % 16), .int .i64 1, .int .i64 A, .int .u32 1, .int .i64 (1 + B), .int .i64 3] rfl rfl ?c1 ?c2 ?c3 ?c4 ?c5 ?_
                      case c0 => (repeat (first | with_reducible exact Keeps.refl _ _ | with_reducible refine Keeps.alloc ?_ _ | with_reducible refine Keeps.drewN ?_ _ | with_reducible refine Keeps.drew ?_ | with_reducible refine Keeps.trans ?_ (by with_reducible assumption)))
                      case c1 => exact six_cells (by simp [Addr.add]) (by simp [Addr.add]) (by simp [Addr.add]) (by simp [Addr.add]) (by simp [Addr.add]) (by simp [Addr.add])
                      case c2 => exact six_one
                      case c3 => exact hbnd1
                      case c4 => exact hbnd2
                      case c5 => exact hbnd3 _ (by (repeat (first | with_reducible exact Keeps.refl _ _ | with_reducible refine Keeps.alloc ?_ _ | with_reducible refine Keeps.drewN ?_ _ | with_reducible refine Keeps.drew ?_ | with_reducible refine Keeps.trans ?_ (by with_reducible assumption))))
                      intro v' w9 hown hgr _
                      have k9 := (grown_keeps hgr).mono (fun y _ h => (World.ownsRow.lt HI.out.1 y h).1))
                   | (go_simp; go_at_call 15; refine (file_ok _ _).mono ?_; rintro e w7 ⟨rfl, k7⟩; first | (have nb := block_keep (drew_at (alloc_new (w := wr) (o := .cells #[.int .i64 2, .int .i64 2, .int .i64 1, .int .i64 3] 3))) k7 (fun h => h); have n0 := cell_at (i := 0) nb rfl; have n1 := cell_at (i := 1) nb rfl; have n2 := cell_at (i := 2) nb rfl; have n3 := cell_at (i := 3) nb rfl) | (have nb := block_keep (alloc_new (w := World.drew wr) (o := .cells #[.int .i64 2, .int .i64 2, .int .i64 1, .int .i64 3] 3)) k7 (fun h => h); have n0 := cell_at (i := 0) nb rfl; have n1 := cell_at (i := 1) nb rfl; have n2 := cell_at (i := 2) nb rfl; have n3 := cell_at (i := 3) nb rfl) | (have nb := block_keep (alloc_new (w := wr) (o := .cells #[.int .i64 2, .int .i64 2, .int .i64 1, .int .i64 3] 3)) k7 (fun h => h); have n0 := cell_at (i := 0) nb rfl; have n1 := cell_at (i := 1) nb rfl; have n2 := cell_at (i := 2) nb rfl; have n3 := cell_at (i := 3) nb rfl) | skip)
                   | go_simp
                 refine hK.out _ _ ?_ (fun hHeld => ?_)
                 · (refine HS.out _ ?_; (repeat (first | with_reducible exact Keeps.refl _ _ | with_reducible refine Keeps.alloc ?_ _ | with_reducible refine Keeps.drewN ?_ _ | with_reducible refine Keeps.drew ?_ | with_reducible refine Keeps.trans ?_ (by with_reducible assumption) | with_reducible refine Keeps.trans ?_ (Keeps.up (by with_reducible assumption)))))
                 clear hK K
                 try dsimp only [Act.put, List.setIfInBounds_toArray, List.set_cons_zero, List.set_cons_succ]))
          refine TK.mk (wpAnyH_done (by kernel_rfl) ?_ _)
          refine NoPanic.normal ?_
          obtain ⟨o1, o2⟩ := tri_own HY.out HT.out HA.out.1 HB.out.1 HZ.out hown
          have kf : Keeps (fun _ => False) w w9 := Keeps.fresh (HI.out.2.up.trans (Keeps.trans (by (repeat (first | with_reducible exact Keeps.refl _ _ | with_reducible refine Keeps.alloc ?_ _ | with_reducible refine Keeps.drewN ?_ _ | with_reducible refine Keeps.drew ?_ | with_reducible refine Keeps.trans ?_ (by with_reducible assumption) | with_reducible refine Keeps.trans ?_ (Keeps.up (by with_reducible assumption))))) k9))
          have HF := hid (And.intro o1 (And.intro o2 kf))
          clear hown o1 o2 kf k9 hgr
          go_wp2_with fail
          exact ⟨⟨i + 1, by omega, rfl, by rw [HF.out.2.1], hid ⟨HF.out.1, HF.out.2.2⟩⟩, by simp [intOf]; omega⟩
        · go_simp
          refine hK.out _ _ ?_ (fun hHeld => ?_)
          · (refine HS.out _ ?_; (repeat (first | with_reducible exact Keeps.refl _ _ | with_reducible refine Keeps.alloc ?_ _ | with_reducible refine Keeps.drewN ?_ _ | with_reducible refine Keeps.drew ?_ | with_reducible refine Keeps.trans ?_ (by with_reducible assumption) | with_reducible refine Keeps.trans ?_ (Keeps.up (by with_reducible assumption)))))
          clear hK K
          try dsimp only [Act.put, List.setIfInBounds_toArray, List.set_cons_zero, List.set_cons_succ]
          refine TK.at [(false, 25)] ?_
          repeat (first
              | (refine TK.take (v := ?_) rfl (by kernel_rfl) (by kernel_rfl) (by kernel_rfl) (fun _ _ _ h => h) (Or.inl ⟨by rfl, ?_⟩) (by assumption) ?_
                 rotate_left
                 · (intro w hSw; (try dsimp only at hSw); simp only [List.getElem_toArray, List.getElem_cons_zero, List.getElem_cons_succ]; go_simp; (first | done | with_reducible rfl))
                 simp only [List.getElem_toArray, List.getElem_cons_zero, List.getElem_cons_succ, Act.put, List.setIfInBounds_toArray, List.set_cons_zero, List.set_cons_succ]))
          refine TK.mk ?_
          refine wpAnyH_ready (rs := [9, 26]) (by kernel_rfl) (by simp) (AllReadyH.cons rfl (fun K hK => ?_) (AllReadyH.cons rfl (fun K hK => ?_) AllReadyH.nil))
          · go_simp
            go_at_call 15; refine (file_ok _ _).mono ?_; rintro e w7 ⟨rfl, k7⟩; first | (have nb := block_keep (drew_at (alloc_new (w := wr) (o := .cells #[.int .i64 2, .int .i64 2, .int .i64 1, .int .i64 3] 3))) k7 (fun h => h); have n0 := cell_at (i := 0) nb rfl; have n1 := cell_at (i := 1) nb rfl; have n2 := cell_at (i := 2) nb rfl; have n3 := cell_at (i := 3) nb rfl) | (have nb := block_keep (alloc_new (w := World.drew wr) (o := .cells #[.int .i64 2, .int .i64 2, .int .i64 1, .int .i64 3] 3)) k7 (fun h => h); have n0 := cell_at (i := 0) nb rfl; have n1 := cell_at (i := 1) nb rfl; have n2 := cell_at (i := 2) nb rfl; have n3 := cell_at (i := 3) nb rfl) | (have nb := block_keep (alloc_new (w := wr) (o := .cells #[.int .i64 2, .int .i64 2, .int .i64 1, .int .i64 3] 3)) k7 (fun h => h); have n0 := cell_at (i := 0) nb rfl; have n1 := cell_at (i := 1) nb rfl; have n2 := cell_at (i := 2) nb rfl; have n3 := cell_at (i := 3) nb rfl) | skip
            refine hK.out _ _ ?_ (fun hHeld => ?_)
            · (refine HS.out _ ?_; (repeat (first | with_reducible exact Keeps.refl _ _ | with_reducible refine Keeps.alloc ?_ _ | with_reducible refine Keeps.drewN ?_ _ | with_reducible refine Keeps.drew ?_ | with_reducible refine Keeps.trans ?_ (by with_reducible assumption) | with_reducible refine Keeps.trans ?_ (Keeps.up (by with_reducible assumption)))))
            clear hK K
            try dsimp only [Act.put, List.setIfInBounds_toArray, List.set_cons_zero, List.set_cons_succ]
            refine TK.at [(true, 26), (false, 27), (true, 28), (true, 29), (true, 30)] ?_
            repeat (first
                | (refine TK.take (v := ?_) rfl (by kernel_rfl) (by kernel_rfl) (by kernel_rfl) (fun _ _ _ h => h) (Or.inl ⟨by rfl, ?_⟩) (by assumption) ?_
                   rotate_left
                   · (intro w hSw; (try dsimp only at hSw); simp only [List.getElem_toArray, List.getElem_cons_zero, List.getElem_cons_succ]; go_simp; (first | done | with_reducible rfl))
                   simp only [List.getElem_toArray, List.getElem_cons_zero, List.getElem_cons_succ, Act.put, List.setIfInBounds_toArray, List.set_cons_zero, List.set_cons_succ])
                | (refine TK.call (by kernel_rfl) rfl (fun K hK => ?_)
                   first
                     | (rw [if_pos (by rfl)]; refine wp_append_own _ _ _ 24 rfl w.heap.size 40 ri (.agg #[.int .i64 0, .int .i64 0, .int .i64 0, .int .u32 0, .int .i64 0, .int .i64 0]) 6 48 Tryz.underlying24 hi1 hi2 hi3 hi4 rfl (by decide) _ _ _ rfl (HI.out.1.keeps ?c0) _ 1 1 [.int .i64 (T + (x.k : Int) % 16), .int .i64 1, .int .i64 A, .int .u32 1, .int .i64 (1 + B), .int .i64 3] rfl rfl ?c1 ?c2 ?c3 ?c4 ?c5 ?_
                        case c0 => (repeat (first | with_reducible exact Keeps.refl _ _ | with_reducible refine Keeps.alloc ?_ _ | with_reducible refine Keeps.drewN ?_ _ | with_reducible refine Keeps.drew ?_ | with_reducible refine Keeps.trans ?_ (by with_reducible assumption)))
                        case c1 => exact six_cells (by simp [Addr.add]) (by simp [Addr.add]) (by simp [Addr.add]) (by simp [Addr.add]) (by simp [Addr.add]) (by simp [Addr.add])
                        case c2 => exact six_one
                        case c3 => exact hbnd1
                        case c4 => exact hbnd2
                        case c5 => exact hbnd3 _ (by (repeat (first | with_reducible exact Keeps.refl _ _ | with_reducible refine Keeps.alloc ?_ _ | with_reducible refine Keeps.drewN ?_ _ | with_reducible refine Keeps.drew ?_ | with_reducible refine Keeps.trans ?_ (by with_reducible assumption))))
                        intro v' w9 hown hgr _
                        have k9 := (grown_keeps hgr).mono (fun y _ h => (World.ownsRow.lt HI.out.1 y h).1))
                     | (go_simp; go_at_call 15; refine (file_ok _ _).mono ?_; rintro e w7 ⟨rfl, k7⟩; first | (have nb := block_keep (drew_at (alloc_new (w := wr) (o := .cells #[.int .i64 2, .int .i64 2, .int .i64 1, .int .i64 3] 3))) k7 (fun h => h); have n0 := cell_at (i := 0) nb rfl; have n1 := cell_at (i := 1) nb rfl; have n2 := cell_at (i := 2) nb rfl; have n3 := cell_at (i := 3) nb rfl) | (have nb := block_keep (alloc_new (w := World.drew wr) (o := .cells #[.int .i64 2, .int .i64 2, .int .i64 1, .int .i64 3] 3)) k7 (fun h => h); have n0 := cell_at (i := 0) nb rfl; have n1 := cell_at (i := 1) nb rfl; have n2 := cell_at (i := 2) nb rfl; have n3 := cell_at (i := 3) nb rfl) | (have nb := block_keep (alloc_new (w := wr) (o := .cells #[.int .i64 2, .int .i64 2, .int .i64 1, .int .i64 3] 3)) k7 (fun h => h); have n0 := cell_at (i := 0) nb rfl; have n1 := cell_at (i := 1) nb rfl; have n2 := cell_at (i := 2) nb rfl; have n3 := cell_at (i := 3) nb rfl) | skip)
                     | go_simp
                   refine hK.out _ _ ?_ (fun hHeld => ?_)
                   · (refine HS.out _ ?_; (repeat (first | with_reducible exact Keeps.refl _ _ | with_reducible refine Keeps.alloc ?_ _ | with_reducible refine Keeps.drewN ?_ _ | with_reducible refine Keeps.drew ?_ | with_reducible refine Keeps.trans ?_ (by with_reducible assumption) | with_reducible refine Keeps.trans ?_ (Keeps.up (by with_reducible assumption)))))
                   clear hK K
                   try dsimp only [Act.put, List.setIfInBounds_toArray, List.set_cons_zero, List.set_cons_succ]))
            refine TK.mk (wpAnyH_done (by kernel_rfl) ?_ _)
            refine NoPanic.normal ?_
            obtain ⟨o1, o2⟩ := tri_own HY.out HT.out HA.out.1 HB.out.1 HZ.out hown
            have kf : Keeps (fun _ => False) w w9 := Keeps.fresh (HI.out.2.up.trans (Keeps.trans (by (repeat (first | with_reducible exact Keeps.refl _ _ | with_reducible refine Keeps.alloc ?_ _ | with_reducible refine Keeps.drewN ?_ _ | with_reducible refine Keeps.drew ?_ | with_reducible refine Keeps.trans ?_ (by with_reducible assumption) | with_reducible refine Keeps.trans ?_ (Keeps.up (by with_reducible assumption))))) k9))
            have HF := hid (And.intro o1 (And.intro o2 kf))
            clear hown o1 o2 kf k9 hgr
            go_wp2_with fail
            exact ⟨⟨i + 1, by omega, rfl, by rw [HF.out.2.1], hid ⟨HF.out.1, HF.out.2.2⟩⟩, by simp [intOf]; omega⟩
          · go_simp
            refine hK.out _ _ ?_ (fun hHeld => ?_)
            · (refine HS.out _ ?_; (repeat (first | with_reducible exact Keeps.refl _ _ | with_reducible refine Keeps.alloc ?_ _ | with_reducible refine Keeps.drewN ?_ _ | with_reducible refine Keeps.drew ?_ | with_reducible refine Keeps.trans ?_ (by with_reducible assumption) | with_reducible refine Keeps.trans ?_ (Keeps.up (by with_reducible assumption)))))
            clear hK K
            try dsimp only [Act.put, List.setIfInBounds_toArray, List.set_cons_zero, List.set_cons_succ]
            refine TK.at [(true, 9), (false, 27), (true, 28), (true, 29), (true, 30)] ?_
            repeat (first
                | (refine TK.take (v := ?_) rfl (by kernel_rfl) (by kernel_rfl) (by kernel_rfl) (fun _ _ _ h => h) (Or.inl ⟨by rfl, ?_⟩) (by assumption) ?_
                   rotate_left
                   · (intro w hSw; (try dsimp only at hSw); simp only [List.getElem_toArray, List.getElem_cons_zero, List.getElem_cons_succ]; go_simp; (first | done | with_reducible rfl))
                   simp only [List.getElem_toArray, List.getElem_cons_zero, List.getElem_cons_succ, Act.put, List.setIfInBounds_toArray, List.set_cons_zero, List.set_cons_succ])
                | (refine TK.call (by kernel_rfl) rfl (fun K hK => ?_)
                   first
                     | (rw [if_pos (by rfl)]; refine wp_append_own _ _ _ 24 rfl w.heap.size 40 ri (.agg #[.int .i64 0, .int .i64 0, .int .i64 0, .int .u32 0, .int .i64 0, .int .i64 0]) 6 48 Tryz.underlying24 hi1 hi2 hi3 hi4 rfl (by decide) _ _ _ rfl (HI.out.1.keeps ?c0) _ 1 1 [.int .i64 (T + (x.k : Int) % 16), .int .i64 1, .int .i64 A, .int .u32 1, .int .i64 (1 + B), .int .i64 3] rfl rfl ?c1 ?c2 ?c3 ?c4 ?c5 ?_
                        case c0 => (repeat (first | with_reducible exact Keeps.refl _ _ | with_reducible refine Keeps.alloc ?_ _ | with_reducible refine Keeps.drewN ?_ _ | with_reducible refine Keeps.drew ?_ | with_reducible refine Keeps.trans ?_ (by with_reducible assumption)))
                        case c1 => exact six_cells (by simp [Addr.add]) (by simp [Addr.add]) (by simp [Addr.add]) (by simp [Addr.add]) (by simp [Addr.add]) (by simp [Addr.add])
                        case c2 => exact six_one
                        case c3 => exact hbnd1
                        case c4 => exact hbnd2
                        case c5 => exact hbnd3 _ (by (repeat (first | with_reducible exact Keeps.refl _ _ | with_reducible refine Keeps.alloc ?_ _ | with_reducible refine Keeps.drewN ?_ _ | with_reducible refine Keeps.drew ?_ | with_reducible refine Keeps.trans ?_ (by with_reducible assumption))))
                        intro v' w9 hown hgr _
                        have k9 := (grown_keeps hgr).mono (fun y _ h => (World.ownsRow.lt HI.out.1 y h).1))
                     | (go_simp; go_at_call 15; refine (file_ok _ _).mono ?_; rintro e w7 ⟨rfl, k7⟩; first | (have nb := block_keep (drew_at (alloc_new (w := wr) (o := .cells #[.int .i64 2, .int .i64 2, .int .i64 1, .int .i64 3] 3))) k7 (fun h => h); have n0 := cell_at (i := 0) nb rfl; have n1 := cell_at (i := 1) nb rfl; have n2 := cell_at (i := 2) nb rfl; have n3 := cell_at (i := 3) nb rfl) | (have nb := block_keep (alloc_new (w := World.drew wr) (o := .cells #[.int .i64 2, .int .i64 2, .int .i64 1, .int .i64 3] 3)) k7 (fun h => h); have n0 := cell_at (i := 0) nb rfl; have n1 := cell_at (i := 1) nb rfl; have n2 := cell_at (i := 2) nb rfl; have n3 := cell_at (i := 3) nb rfl) | (have nb := block_keep (alloc_new (w := wr) (o := .cells #[.int .i64 2, .int .i64 2, .int .i64 1, .int .i64 3] 3)) k7 (fun h => h); have n0 := cell_at (i := 0) nb rfl; have n1 := cell_at (i := 1) nb rfl; have n2 := cell_at (i := 2) nb rfl; have n3 := cell_at (i := 3) nb rfl) | skip)
                     | go_simp
                   refine hK.out _ _ ?_ (fun hHeld => ?_)
                   · (refine HS.out _ ?_; (repeat (first | with_reducible exact Keeps.refl _ _ | with_reducible refine Keeps.alloc ?_ _ | with_reducible refine Keeps.drewN ?_ _ | with_reducible refine Keeps.drew ?_ | with_reducible refine Keeps.trans ?_ (by with_reducible assumption) | with_reducible refine Keeps.trans ?_ (Keeps.up (by with_reducible assumption)))))
                   clear hK K
                   try dsimp only [Act.put, List.setIfInBounds_toArray, List.set_cons_zero, List.set_cons_succ]))
            refine TK.mk (wpAnyH_done (by kernel_rfl) ?_ _)
            refine NoPanic.normal ?_
            obtain ⟨o1, o2⟩ := tri_own HY.out HT.out HA.out.1 HB.out.1 HZ.out hown
            have kf : Keeps (fun _ => False) w w9 := Keeps.fresh (HI.out.2.up.trans (Keeps.trans (by (repeat (first | with_reducible exact Keeps.refl _ _ | with_reducible refine Keeps.alloc ?_ _ | with_reducible refine Keeps.drewN ?_ _ | with_reducible refine Keeps.drew ?_ | with_reducible refine Keeps.trans ?_ (by with_reducible assumption) | with_reducible refine Keeps.trans ?_ (Keeps.up (by with_reducible assumption))))) k9))
            have HF := hid (And.intro o1 (And.intro o2 kf))
            clear hown o1 o2 kf k9 hgr
            go_wp2_with fail
            exact ⟨⟨i + 1, by omega, rfl, by rw [HF.out.2.1], hid ⟨HF.out.1, HF.out.2.2⟩⟩, by simp [intOf]; omega⟩
    · have e := List.take_of_length_le (Nat.le_of_not_lt hlt)
      rw [e] at HI
      have HA := hid (HI.out.1.row (tri_wf hn))
      have hlt' : ¬ (i : Int) < (l.length : Int) := by omega
      go_wp2_with fail
      go_ret
      exact ⟨_, rfl, HA.out, HI.out.2⟩
end Go.Proofs.YtcagogkgnnckaaaGreatDoor
