/- estrayref18: New. -/
import Derived.Test.YtnjgkhgdgpahfaaGreatRfI
namespace Go.Proofs.YtnjgkhgdgpahfaaGreat
open Go.RowKit
set_option linter.unusedVariables false
set_option linter.unusedSimpArgs false

section
variable {w w' : World} {x N : Nat} {L : L18} {A A' : Ar}
theorem R18.svlt (h : R18 w x L A) {m k : Nat} (hm : m < A.many) (hk : (L.sv m).ownBlock = some k) : k < w.heap.size := by
  rcases (h.st m hm).r with ⟨e, _⟩ | ⟨g, cap, cur, e, hg, _⟩
  · rw [e] at hk; cases hk
  · rw [e] at hk
    obtain rfl : g = k := Option.some.inj hk
    exact lt_block hg
theorem Up18.fin {W : World} {B : Nat} (h : Up18 x N L A' w W) (h0 : R18 w x L A) (hm : A'.many = A.many) (hB : w.heap.size ≤ B) (hN : B < N) {cs : Array Value} (hq : W.heap[B]? = some (.cells cs 39)) (u v : Value) :
    Up18 x N L A' w ((W.setCell ⟨B, 0, none⟩ u).setCell ⟨B, 1, none⟩ v) := by
  obtain ⟨hk, L', e, h', hs⟩ := h
  refine ⟨(hk.setCell (p := ⟨B, 0, none⟩) (.inr hB) _).setCell (p := ⟨B, 1, none⟩) (.inr hB) _, L', e, ?_, hs⟩
  have k2 := keeps_two W B u v
  obtain ⟨c, cap, h1, h2⟩ := h'.own
  obtain ⟨cr, r1, r2⟩ := h'.row
  obtain ⟨_, _, _, a1⟩ := h'.heap.own
  obtain ⟨_, a2, _⟩ := h'.heap.row
  refine ⟨⟨c, cap, block_keep h1 k2 (type_ne h1 hq (by decide)), h2⟩, h'.heap.keeps k2 (type_ne a1 hq (by decide)) (type_ne a2 hq (by decide)), ⟨cr, block_keep r1 k2 (type_ne r1 hq (by decide)), r2⟩, fun m hm' => (h'.st m hm').keeps k2 (fun k hk' e' => ?_), h'.ok⟩
  rcases hs m k hm' hk' with ⟨m', hm2, hk2⟩ | hk2
  · have := h0.svlt (by rw [← hm]; exact hm2) hk2
    omega
  · omega
theorem Up18.lower {N' : Nat} (h : Up18 x N L A' w w') (hN : N' ≤ N) : Up18 x N' L A' w w' := by
  obtain ⟨hk, L', e, h', hs⟩ := h
  exact ⟨hk, L', e, h', fun m k hm hk => (hs m k hm hk).imp id (fun h => Nat.le_trans hN h)⟩
theorem Up18.from' {w0 : World} (h : Up18 x N L A' w w') (hk : Keeps (fun y => y = x ∨ y = L.hb) w0 w) : Up18 x N L A' w0 w' := ⟨hk.trans h.1, h.2⟩
end

end Go.Proofs.YtnjgkhgdgpahfaaGreat

namespace Go.Proofs.YtnjgkhgdgpahfaaGreat
open Go.RowKit
set_option linter.unusedVariables false
set_option linter.unusedSimpArgs false

section
variable {w w' : World} {x N : Nat} {L : L18} {A A' : Ar}
structure Hd18 (w wb : World) (x : Nat) (L : L18) (A : Ar) : Prop where
  h : R18 w x L A
  k : Keeps (fun _ => False) w wb
  q : wb.heap[w.heap.size]? = some (.cells #[.int .i64 0, .int .u32 0] 39)
  sz : wb.heap.size = w.heap.size + 1
theorem Hd18.mk0 (h : R18 w x L A) : Hd18 w (w.alloc (.cells #[.int .i64 0, .int .u32 0] 39)) x L A := ⟨h, (Keeps.refl _ _).alloc _, alloc_new, by simp⟩
theorem Hd18.at' {wb : World} (d : Hd18 w wb x L A) : R18 wb x L A := d.h.k0 d.k
theorem Hd18.r {wb W : World} (d : Hd18 w wb x L A) (hk : Keeps (fun _ => False) wb W) : R18 W x L A := d.at'.k0 hk
theorem Hd18.b {wb W : World} (d : Hd18 w wb x L A) (hk : Keeps (fun _ => False) wb W) : W.heap[w.heap.size]? = some (.cells #[.int .i64 0, .int .u32 0] 39) := block_keep d.q hk (fun h => h)
theorem Hd18.fin {wb W : World} (d : Hd18 w wb x L A) (hk : Keeps (fun _ => False) wb W) (u v : Value) : Up18 x w.heap.size L A w ((W.setCell ⟨w.heap.size, 0, none⟩ u).setCell ⟨w.heap.size, 1, none⟩ v) :=
  ((Up18.stay (N := wb.heap.size) d.h (d.k.trans hk)).fin d.h rfl (Nat.le_refl _) (by have := d.sz; omega) (d.b hk) u v).lower (by have := d.sz; omega)
theorem Hd18.ne {wb : World} (d : Hd18 w wb x L A) : w.heap.size ≠ x ∧ w.heap.size ≠ L.hb := by
  have h1 := d.h.lt.1; have h2 := d.h.heap.lt.1
  exact ⟨by omega, by omega⟩
end

end Go.Proofs.YtnjgkhgdgpahfaaGreat

namespace Go.Proofs.YtnjgkhgdgpahfaaGreat
open Go.RowKit
set_option linter.unusedVariables false
set_option linter.unusedSimpArgs false

section
variable {w w' : World} {x N : Nat} {L : L18} {A A' : Ar}
/-! two results -/
structure Hd2 (w wb : World) (x : Nat) (L : L18) (A : Ar) : Prop where
  h : R18 w x L A
  k : Keeps (fun _ => False) w wb
  q : wb.heap[w.heap.size]? = some (.cells #[.int .i64 0, .int .u32 0] 39)
  p : wb.heap[w.heap.size + 1]? = some (.cells #[.int .i64 0, .int .u32 0] 39)
  sz : wb.heap.size = w.heap.size + 1 + 1
theorem Hd2.mk0 (h : R18 w x L A) : Hd2 w ((w.alloc (.cells #[.int .i64 0, .int .u32 0] 39)).alloc (.cells #[.int .i64 0, .int .u32 0] 39)) x L A :=
  ⟨h, ((Keeps.refl _ _).alloc _).alloc _, alloc_old alloc_new, alloc_new' (by simp), by simp⟩
theorem Hd2.r {wb W : World} (d : Hd2 w wb x L A) (hk : Keeps (fun _ => False) wb W) : R18 W x L A := d.h.k0 (d.k.trans hk)
theorem Hd2.ne {wb : World} (d : Hd2 w wb x L A) : (w.heap.size ≠ x ∧ w.heap.size ≠ L.hb) ∧ (w.heap.size + 1 ≠ x ∧ w.heap.size + 1 ≠ L.hb) := by
  have h1 := d.h.lt.1; have h2 := d.h.heap.lt.1
  exact ⟨⟨by omega, by omega⟩, by omega, by omega⟩
theorem Up18.fin2 {W wb : World} (h : Up18 x N L A' w W) (d : Hd2 w wb x L A) (hm : A'.many = A.many) (hN : w.heap.size + 1 < N) (hq : ∃ cs, W.heap[w.heap.size]? = some (.cells cs 39)) (hp : ∃ cs, W.heap[w.heap.size + 1]? = some (.cells cs 39)) (u v s t : Value) :
    Up18 x w.heap.size L A' w ((((W.setCell ⟨w.heap.size, 0, none⟩ u).setCell ⟨w.heap.size, 1, none⟩ v).setCell ⟨w.heap.size + 1, 0, none⟩ s).setCell ⟨w.heap.size + 1, 1, none⟩ t) := by
  obtain ⟨cq, hq⟩ := hq
  obtain ⟨cp, hp⟩ := hp
  have h1 := h.fin d.h hm (Nat.le_refl _) (by omega) hq u v
  have hp2 : ((W.setCell ⟨w.heap.size, 0, none⟩ u).setCell ⟨w.heap.size, 1, none⟩ v).heap[w.heap.size + 1]? = some (.cells cp 39) := block_keep hp (keeps_two _ _ _ _) (by omega)
  exact (h1.fin d.h hm (by omega) hN hp2 s t).lower (by omega)
theorem Hd2.fin {wb W : World} (d : Hd2 w wb x L A) (hk : Keeps (fun _ => False) wb W) (u v s t : Value) : Up18 x w.heap.size L A w ((((W.setCell ⟨w.heap.size, 0, none⟩ u).setCell ⟨w.heap.size, 1, none⟩ v).setCell ⟨w.heap.size + 1, 0, none⟩ s).setCell ⟨w.heap.size + 1, 1, none⟩ t) :=
  (Up18.stay (N := w.heap.size + 2) d.h (d.k.trans hk)).fin2 d rfl (by omega) ⟨_, block_keep d.q hk (fun h => h)⟩ ⟨_, block_keep d.p hk (fun h => h)⟩ u v s t
theorem R18.setG (h : R18 w x L A) {k : Nat} (hk : k < 8) (v : Rf) (hok : ({ A with gl := updf A.gl k v } : Ar).Ok) : Up18 x N L { A with gl := updf A.gl k v } w ((w.setCell ⟨x, 4 + k * 2, none⟩ (.int .i64 v.s)).setCell ⟨x, 4 + k * 2 + 1, none⟩ (.int .u32 v.g)) := by
  obtain ⟨c, cap, h1, h2, h3, h4, h5, h6, h7, h8⟩ := h.own
  obtain ⟨cr, r1, r2⟩ := h.row
  obtain ⟨_, _, _, a1⟩ := h.heap.own
  obtain ⟨_, a2, _⟩ := h.heap.row
  obtain ⟨W, hW⟩ : ∃ W, (w.setCell ⟨x, 4 + k * 2, none⟩ (.int .i64 v.s)).setCell ⟨x, 4 + k * 2 + 1, none⟩ (.int .u32 v.g) = W := ⟨_, rfl⟩
  have kW : Keeps (fun y => y = x) w W := by
    rw [← hW]
    exact Keeps.setCell (S := fun y => y = x) (p := ⟨x, 4 + k * 2 + 1, none⟩) (Keeps.setCell (S := fun y => y = x) (p := ⟨x, 4 + k * 2, none⟩) (Keeps.refl _ _) (.inl rfl) _) (.inl rfl) _
  have q : W.heap[x]? = some (.cells ((c.setIfInBounds (4 + k * 2) (.int .i64 v.s)).setIfInBounds (4 + k * 2 + 1) (.int .u32 v.g)) 84) := by rw [← hW]; exact set_block (set_block h1 _ _) _ _
  rw [hW]
  have g : ∀ i, i < 4 → ((c.setIfInBounds (4 + k * 2) (.int .i64 v.s)).setIfInBounds (4 + k * 2 + 1) (.int .u32 v.g))[i]? = c[i]? := fun i hi => by
    rw [Array.getElem?_setIfInBounds_ne (by omega), Array.getElem?_setIfInBounds_ne (by omega)]
  refine ⟨kW.mono (fun _ _ h => .inl h), L, rfl, ⟨⟨_, cap, q, by simpa using h2, by rw [g 0 (by omega)]; exact h3, by rw [g 1 (by omega)]; exact h4, by rw [g 2 (by omega)]; exact h5, by rw [g 3 (by omega)]; exact h6, h7.set k hk (by omega) v, h8⟩, h.heap.keeps kW (type_ne a1 h1 (by decide)) (type_ne a2 h1 (by decide)), ⟨cr, block_keep r1 kW (type_ne r1 h1 (by decide)), r2⟩, fun m hm => (h.st m hm).keeps kW (fun y hy e => ?_), hok⟩, fun m y hm hy => .inl ⟨m, hm, hy⟩⟩
  rcases (h.st m hm).r with ⟨e', _⟩ | ⟨g, cap, cur, e', hg, _⟩
  · rw [e'] at hy; cases hy
  · rw [e'] at hy
    obtain rfl : g = y := Option.some.inj hy
    exact type_ne hg h1 (by decide) e
end

end Go.Proofs.YtnjgkhgdgpahfaaGreat

namespace Go.Proofs.YtnjgkhgdgpahfaaGreat
open Go.RowKit
set_option linter.unusedVariables false
set_option linter.unusedSimpArgs false

section
variable {w w' : World} {x N : Nat} {L : L18} {A A' : Ar}
end

end Go.Proofs.YtnjgkhgdgpahfaaGreat

namespace Go.Proofs.YtnjgkhgdgpahfaaGreat
open Go.RowKit
set_option linter.unusedVariables false
set_option linter.unusedSimpArgs false

section
variable {w w' : World} {x N : Nat} {L : L18} {A A' : Ar}
end

end Go.Proofs.YtnjgkhgdgpahfaaGreat

namespace Go.Proofs.YtnjgkhgdgpahfaaGreat
open Go.RowKit
set_option linter.unusedVariables false
set_option linter.unusedSimpArgs false

theorem made_rows {m : Nat} (h1 : 1 ≤ m) (h4 : m ≤ 4) : ∃ C : Array Value, (∀ W : World, (Instr.makeSlice 81 (.int .i64 m) (.int .i64 m)).run Tryz.prog W = .ok (.slice (some ⟨W.heap.size, 0, none⟩) m m) (W.alloc (.cells C 101))) ∧ ∀ j, j < m → C[j]? = some (.slice none 0 0) := by
  obtain ⟨ri, hi1, hi2, hi3, hi4⟩ := rows_info
  refine ⟨madeCells (Value.slice none 0 0).cells (m * 1), fun W => ?_, ?_⟩
  · have := run_makeSlice (P := Tryz.prog) W 81 101 ri (.slice none 0 0) Tryz.underlying81 hi1 hi2 .i64 .i64 m m (by omega) (by omega) (by rw [hi3, Int.toNat_natCast]; omega) (by rw [hi4]; omega) (by omega)
    rw [hi3, Int.toNat_natCast] at this
    exact this
  · intro j hj
    rw [← Array.getElem?_toList]
    show (madeCells #[Value.slice none 0 0] (m * 1)).toList[j]? = _
    rw [toList_madeCells_one, List.getElem?_replicate, if_pos (by omega)]
section
variable {w w' : World} {x N : Nat} {L : L18} {A A' : Ar}
set_option maxRecDepth 100000 in
set_option maxHeartbeats 2000000 in
theorem new18_ok (n m : Nat) (g : Int) (n1 : 1 ≤ n) (n2 : n ≤ 256) (m1 : 1 ≤ m) (m4 : m ≤ 4) (g1 : 1 ≤ g) (g2 : g ≤ 4294967295) :
    Calls Tryz.prog 7 #[.int .i64 n, .int .i64 m, .int .u32 g] w fun e w' => ∃ x L, e = .returned (.tuple #[.pointer (some ⟨x, 0, none⟩), .int .i64 0]) ∧ Keeps (fun _ => False) w w' ∧ w.heap.size ≤ x ∧ w.heap.size ≤ L.hb ∧ R18 w' x L (Ar.new n m g) := by
  have H := hid (new14_ok (w := w) n g n1 n2 g1 g2)
  obtain ⟨C, hC, hC2⟩ := made_rows m1 m4
  have HC := hid hC2
  have HOK := hid (Ar.Ok.new n1 n2 m1 m4 g1 g2)
  have h1 : ¬ (m : Int) < 1 := by omega
  have h4 : ¬ 4 < (m : Int) := by omega
  clear n1 n2 m1 hC2 g1 g2
  go_enter Tryz.func7, Tryz.ntmps7
  go_wp2_with fail
  refine H.out.mono ?_
  rintro e w1 ⟨b', r', rfl, k1, hb', hr', h14⟩
  have K1 := hid k1; have H14 := hid h14
  clear k1 h14
  go_wp2_with fail
  go_ret2
  refine ⟨_, ⟨b', r', w1.heap.size, fun _ => .slice none 0 0⟩, rfl, (K1.out.alloc _).alloc _, ?_, hb', ⟨⟨_, m, alloc_new' (by simp), rfl, rfl, rfl, rfl, rfl, ?_, Nat.le_refl _, ?_⟩, H14.out.keeps (((Keeps.refl (fun _ => False) _).alloc _).alloc _) (fun h => h) (fun h => h), ⟨C, alloc_old alloc_new, HC.out⟩, fun j hj => ⟨.inl ⟨rfl, rfl⟩, Nat.le_refl 0⟩, HOK.out⟩⟩
  · have := K1.out.size; omega
  · intro i hi
    have : i = 0 ∨ i = 1 ∨ i = 2 ∨ i = 3 ∨ i = 4 ∨ i = 5 ∨ i = 6 ∨ i = 7 := by omega
    rcases this with rfl | rfl | rfl | rfl | rfl | rfl | rfl | rfl <;> exact ⟨rfl, rfl⟩
  · unfold maxLen; omega
end

end Go.Proofs.YtnjgkhgdgpahfaaGreat
