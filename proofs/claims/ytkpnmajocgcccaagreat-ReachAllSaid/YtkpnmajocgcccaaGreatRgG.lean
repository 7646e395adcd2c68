/- arena.New that refuses; slices.Clone and slices.Equal of names anywhere; rows of names and of steps as arguments. -/
import Derived.Test.YtkpnmajocgcccaaGreatRcK
import Derived.Test.YtkpnmajocgcccaaGreatRgE
namespace Go.Proofs.YtkpnmajocgcccaaGreat
open Go.RowKit Go.ChangeShapes Go.WideShapes Go.ChangeAt Go.Deep
set_option linter.unusedVariables false
set_option linter.unusedSimpArgs false

def NoH (w : World) (v : Value) : Prop := v = .pointer none ∨ ∃ b, v = .pointer (some ⟨b, 0, none⟩) ∧ w.heap[b]? = some (.cells Tryz.zeroCells132 132)
theorem NoH.keeps0 {w w' : World} {v : Value} (h : NoH w v) (hk : Keeps (fun _ => False) w w') : NoH w' v := by
  rcases h with h | ⟨b, h, hb⟩
  · exact .inl h
  · exact .inr ⟨b, h, block_keep hb hk (fun h => h)⟩
theorem NoH.cell {w : World} {b : Nat} (hb : w.heap[b]? = some (.cells Tryz.zeroCells132 132)) : w.cell? ⟨b, 0, none⟩ = some (.pointer none) :=
  cell_at hb (by rw [← Array.getElem?_toList, hz_list]; rfl)
theorem aheap_no (v : Value) (w : World) (h : NoA w v) : Calls Tryz.prog 12 #[v] w fun e w' => e = .returned (.pointer none) ∧ w' = w := by
  have HV := hid (avalid_no v w h)
  clear h
  go_enter Tryz.func12, Tryz.ntmps12
  go_wp2_with fail
  refine (HV.out).mono ?_
  rintro e w' ⟨rfl, h'⟩
  obtain rfl := h'.symm
  go_wp2_with fail
  go_ret
  exact ⟨rfl, rfl⟩
set_option maxRecDepth 100000 in
theorem look_no (v : Value) (w : World) (h : NoA w v) : Calls Tryz.prog 64 #[v] w fun e w' => e = .returned (.tuple #[.agg #[.pointer none, .slice none 0 0, .map none], .int .i64 1]) ∧ Keeps (fun _ => False) w w' := by
  have HN := hid (fun W (hk : Keeps (fun _ => False) w W) => aheap_no v W (h.keeps0 hk))
  clear h
  obtain ⟨wz, hwz⟩ : ∃ wz, w.alloc (.cells #[.pointer none, .slice none 0 0, .map none] 105) = wz := ⟨_, rfl⟩
  have kz : Keeps (fun _ => False) w wz := by rw [← hwz]; exact (Keeps.refl _ _).alloc _
  have qz : wz.heap[w.heap.size]? = some (.cells #[.pointer none, .slice none 0 0, .map none] 105) := by rw [← hwz]; exact alloc_new
  have KZ := hid kz; have QZ := hid qz; have HWZ := hid hwz
  clear kz qz hwz
  go_enter Tryz.func64, Tryz.ntmps64
  go_wp2_with fail
  rw [HWZ.out]
  refine (HN.out _ KZ.out).mono ?_
  rintro e w' ⟨rfl, h'⟩
  obtain rfl := h'.symm
  obtain ⟨w2, hw2⟩ : ∃ w2, wz.alloc (.cells #[.pointer none] 33) = w2 := ⟨_, rfl⟩
  have k2 : Keeps (fun _ => False) wz w2 := by rw [← hw2]; exact (Keeps.refl _ _).alloc _
  have q2 : w2.heap[wz.heap.size]? = some (.cells #[.pointer none] 33) := by rw [← hw2]; exact alloc_new
  obtain ⟨B, hB⟩ : ∃ B, wz.heap.size = B := ⟨_, rfl⟩
  rw [hB] at q2
  obtain ⟨b0, bf, bl⟩ := cells1 q2
  have QG := hid (block_keep QZ.out k2 (fun h => h))
  have K2 := hid (KZ.out.trans k2)
  obtain ⟨g0, g1, g2, gl⟩ := cells3 QG.out
  have gf := frozen_block QG.out
  clear k2 q2
  subst hw2
  go_wp2_with fail
  obtain ⟨w2, hw2⟩ : ∃ w2, wz.alloc (.cells #[.pointer none] 33) = w2 := ⟨_, rfl⟩
  rw [hw2] at QG K2 ⊢
  clear g0 g1 g2 gl gf b0 bf bl hw2
  have e3 := set_block (set_block (set_block QG.out 0 (.pointer none)) 1 (.slice none 0 0)) 2 (.map none)
  have k8 : Keeps (fun y => y = w.heap.size) w2 (((w2.setCell ⟨w.heap.size, 0, none⟩ (.pointer none)).setCell ⟨w.heap.size, 1, none⟩ (.slice none 0 0)).setCell ⟨w.heap.size, 2, none⟩ (.map none)) :=
    Keeps.setCell (p := ⟨w.heap.size, 2, none⟩) (Keeps.setCell (p := ⟨w.heap.size, 1, none⟩) (Keeps.setCell (p := ⟨w.heap.size, 0, none⟩) (Keeps.refl (fun y => y = w.heap.size) w2) (.inl rfl) _) (.inl rfl) _) (.inl rfl) _
  obtain ⟨w8, hw8⟩ : ∃ w8, (((w2.setCell ⟨w.heap.size, 0, none⟩ (.pointer none)).setCell ⟨w.heap.size, 1, none⟩ (.slice none 0 0)).setCell ⟨w.heap.size, 2, none⟩ (.map none)) = w8 := ⟨_, rfl⟩
  rw [hw8] at k8 e3 ⊢
  obtain ⟨g0', g1', g2', gl'⟩ := cells3 e3
  have hres : Keeps (fun _ => False) w w8 := (K2.out.up.trans' k8 (U := fun y => w.heap.size ≤ y) (fun _ _ h => h) (fun y _ h => by omega)).fresh
  have z0 := Tryz.isAgg105 w8
  have z1 := Tryz.sizeOf105 w8
  refine bodyPost_ret_by (v := .tuple #[.agg #[.pointer none, .slice none 0 0, .map none], .int .i64 1]) (by simp [results, Tryz.results64, go_sem, z0, z1, g0', g1', g2']) rfl ⟨rfl, hres⟩
theorem all_no (v : Value) (w : World) (h : NoA w v) : Calls Tryz.prog 17 #[v] w fun e w' => e = .returned (.tuple #[.slice none 0 0, .int .i64 1]) ∧ Keeps (fun _ => False) w w' := by
  have HL := hid (look_no v w h)
  clear h
  go_enter Tryz.func17, Tryz.ntmps17
  go_wp2_with fail
  refine HL.out.mono ?_
  rintro e w1 ⟨rfl, k1⟩
  have K := hid (k1.alloc (.cells #[.pointer none, .slice none 0 0, .map none] 105))
  clear k1
  go_wp2_with fail
  go_ret2
  exact ⟨rfl, K.out⟩
theorem lost_no (v : Value) (w : World) (h : NoA w v) : Calls Tryz.prog 19 #[v] w fun e w' => e = .returned (.tuple #[.slice none 0 0, .int .i64 1]) ∧ Keeps (fun _ => False) w w' := by
  have HL := hid (look_no v w h)
  clear h
  go_enter Tryz.func19, Tryz.ntmps19
  go_wp2_with fail
  refine HL.out.mono ?_
  rintro e w1 ⟨rfl, k1⟩
  have K := hid (k1.alloc (.cells #[.pointer none, .slice none 0 0, .map none] 105))
  clear k1
  go_wp2_with fail
  go_ret2
  exact ⟨rfl, K.out⟩
theorem path_no (v : Value) (s g : Int) (w : World) (h : NoA w v) : Calls Tryz.prog 24 #[v, .agg #[.int .i64 s, .int .u32 g]] w fun e w' => e = .returned (.tuple #[.slice none 0 0, .bool false, .int .i64 1]) ∧ Keeps (fun _ => False) w w' := by
  have HL := hid (fun W (hk : Keeps (fun _ => False) w W) => look_no v W (h.keeps0 hk))
  clear h
  go_enter Tryz.func24, Tryz.ntmps24
  go_wp2_with fail
  refine (HL.out _ ((Keeps.refl _ _).alloc _)).mono ?_
  rintro e w1 ⟨rfl, k1⟩
  have K := hid ((((Keeps.refl (fun _ => False) w).alloc (.cells #[.int .i64 s, .int .u32 g] 41)).trans k1).alloc (.cells #[.pointer none, .slice none 0 0, .map none] 105))
  clear k1
  go_wp2_with fail
  go_ret3
  exact ⟨rfl, K.out⟩
theorem is_no (v : Value) (s g : Int) (w : World) (h : NoA w v) : Calls Tryz.prog 22 #[v, .agg #[.int .i64 s, .int .u32 g]] w fun e w' => e = .returned (.tuple #[.bool false, .int .i64 1]) ∧ Keeps (fun _ => False) w w' := by
  have HL := hid (fun W (hk : Keeps (fun _ => False) w W) => path_no v s g W (h.keeps0 hk))
  clear h
  go_enter Tryz.func22, Tryz.ntmps22
  go_wp2_with fail
  refine (HL.out _ ((Keeps.refl _ _).alloc _)).mono ?_
  rintro e w1 ⟨rfl, k1⟩
  have K := hid (((Keeps.refl (fun _ => False) w).alloc (.cells #[.int .i64 s, .int .u32 g] 41)).trans k1)
  clear k1
  go_wp2_with fail
  go_ret2
  exact ⟨rfl, K.out⟩
theorem depth_no (v : Value) (s g : Int) (w : World) (h : NoA w v) : Calls Tryz.prog 26 #[v, .agg #[.int .i64 s, .int .u32 g]] w fun e w' => e = .returned (.tuple #[.int .i64 0, .bool false, .int .i64 1]) ∧ Keeps (fun _ => False) w w' := by
  have HL := hid (fun W (hk : Keeps (fun _ => False) w W) => path_no v s g W (h.keeps0 hk))
  clear h
  have hm : max (((0 : Nat) : Int) - 1) 0 = 0 := by decide
  have hm2 : max ((-1 : Int)) 0 = 0 := by decide
  go_enter Tryz.func26, Tryz.ntmps26
  go_wp2_with fail
  refine (HL.out _ ((Keeps.refl _ _).alloc _)).mono ?_
  rintro e w1 ⟨rfl, k1⟩
  have K := hid (((Keeps.refl (fun _ => False) w).alloc (.cells #[.int .i64 s, .int .u32 g] 41)).trans k1)
  clear k1
  go_wp2_with fail
  go_ret3
  exact ⟨rfl, K.out⟩
def ksRef : List Flat := [.int .i64, .int .u32]
set_option maxRecDepth 100000 in
theorem ref_of {H : Type} {enc : TypeId × Value → H} {w : World} {base : Nat} {spare : Nat → Bool} {held : Bool} {t : TypeId} {fs : Array Field} {r : Reach} {b0 : Nat} {v : Value} {d : DataW H} {p : List MemPlace} (ht : Tryz.prog.underlying t = some (.struct fs)) (hfl : flat Tryz.prog 8 t = some ksRef) (hC : Tryz.prog.cellsOf t = 2)
    (hv : Value.okWide Tryz.prog w r b0 t v) (h : DataW.Trod enc Tryz.prog w base spare held t v d p) : ∃ s g : Int, v = .agg #[.int .i64 s, .int .u32 g] ∧ (Lit.int .i64 s).wf = true ∧ (Lit.int .u32 g).wf = true := by
  obtain ⟨cs, rfl, hs⟩ := okWide_struct ht hv
  obtain ⟨fuel, hf⟩ := h
  have hc : ∀ (i : Nat) (k : Flat), ksRef[i]? = some k → ∃ u, cs[i]? = some u ∧ k.Ok u := by
    intro i k hk
    obtain ⟨u, hu, hok⟩ := flat_at 8 t ksRef hfl _ _ _ hf i k hk
    exact ⟨u, by simpa [Value.cells] using hu, hok⟩
  obtain ⟨u0, h0, s, rfl, k0⟩ := hc 0 _ rfl
  obtain ⟨u1, h1, g, rfl, k1⟩ := hc 1 _ rfl
  refine ⟨s, g, ?_, k0, k1⟩
  congr 1
  apply Array.ext_getElem?
  intro i
  match i with
  | 0 => rw [h0]; rfl
  | 1 => rw [h1]; rfl
  | i + 2 => rw [Array.getElem?_eq_none (by rw [hs, hC]; omega), Array.getElem?_eq_none (by simp)]
end Go.Proofs.YtkpnmajocgcccaaGreat

namespace Go.Proofs.YtkpnmajocgcccaaGreat
open Go.RowKit
set_option linter.unusedVariables false
set_option linter.unusedSimpArgs false

structure Pr (N : Nat) (w0 w : World) (a : Nat) (LA : ArL) (x : Nat) (A B : Ar) : Prop where
  ay : Ay N w0 w a LA A
  lx : N ≤ x
  doc : ∃ LR : L18, N ≤ LR.hb ∧ R18 w x LR B
def Stay (w w' : World) : Prop := ∀ (y : Nat) (c : Array Value), w.heap[y]? = some (Obj.cells c 95) → w'.heap[y]? = some (Obj.cells c 95)
theorem Stay.of {w w' : World} {S : Nat → Prop} (hk : Keeps S w w') (h : ∀ (y : Nat) (c : Array Value), w.heap[y]? = some (Obj.cells c 95) → ¬ S y) : Stay w w' := fun y c hy => block_keep hy hk (h y c hy)
section
variable {N : Nat} {w0 w w' : World} {a x : Nat} {LA : ArL} {A A' B B' : Ar}
theorem Ay.ty (h : Ay N w0 w a LA A) : ∀ y c t, w.heap[y]? = some (.cells c t) → LA.foot A.many y → t = 132 ∨ t = 184 ∨ t = 142 ∨ t = 145 := by
  intro y c t hy hf
  rcases hf with rfl | rfl | rfl | ⟨k, hk, rfl⟩
  · obtain ⟨c', hc, _⟩ := h.ar.heap.own; rw [hc] at hy; simp at hy; exact .inl hy.2.symm
  · obtain ⟨c', hc, _⟩ := h.ar.heap.tab; rw [hc] at hy; simp at hy; exact .inr (.inl hy.2.symm)
  · obtain ⟨c', hc, _⟩ := h.ar.gl; rw [hc] at hy; simp at hy; exact .inr (.inr (.inl hy.2.symm))
  · obtain ⟨c', hc, _⟩ := h.ar.st k hk; rw [hc] at hy; simp at hy; exact .inr (.inr (.inr hy.2.symm))
theorem Ay.alien (h : Ay N w0 w a LA A) : Alien (fun y => LA.foot A.many y) w := by
  intro y c t hy ht hf
  rcases h.ty y c t hy hf with h | h | h | h <;> rw [h] at ht <;> revert ht <;> decide
theorem Ay.stay (h : Ay N w0 w a LA A) (hk : Keeps (fun y => LA.foot A.many y) w w') : Stay w w' :=
  Stay.of hk fun y c hy hf => by rcases h.ty y c _ hy hf with h | h | h | h <;> revert h <;> decide
theorem Pr.quiet (h : Pr N w0 w a LA x A B) (hk : Keeps (fun _ => False) w w') : Pr N w0 w' a LA x A B := by
  obtain ⟨LR, h1, h2⟩ := h.doc
  exact ⟨h.ay.quiet hk, h.lx, LR, h1, h2.k0 hk⟩
theorem Pr.prog (h : Pr N w0 w a LA x A B) (hk : Keeps (fun y => LA.foot A.many y) w w') (h' : Ay N w0 w' a LA A') : Pr N w0 w' a LA x A' B := by
  obtain ⟨LR, h1, h2⟩ := h.doc
  exact ⟨h', h.lx, LR, h1, h2.keeps hk h.ay.alien⟩
theorem Pr.docs (h : Pr N w0 w a LA x A B) (hu : ∃ LR n, N ≤ LR.hb ∧ R18 w x LR B ∧ Up18 x n LR B' w w') : Pr N w0 w' a LA x A B' ∧ Stay w w' := by
  obtain ⟨LR, n, h1, h2, hk, L', e, h3, _⟩ := hu
  obtain ⟨cx, _, x1, _⟩ := h2.own
  obtain ⟨_, _, _, b1⟩ := h2.heap.own
  have hs : ∀ y c t, w.heap[y]? = some (.cells c t) → t ≠ 83 → t ≠ 115 → ¬ (y = x ∨ y = LR.hb) := fun y c t hy n1 n2 e => e.elim (type_ne hy x1 n1) (type_ne hy b1 n2)
  obtain ⟨ca, a1, _⟩ := h.ay.ar.own
  obtain ⟨ch, c1, _⟩ := h.ay.ar.heap.own
  obtain ⟨ct, t1, _⟩ := h.ay.ar.heap.tab
  obtain ⟨cg, g1, _⟩ := h.ay.ar.gl
  refine ⟨⟨⟨h.ay.ar.keeps hk (hs _ _ _ a1 (by decide) (by decide)) (hs _ _ _ h.ay.ar.obj (by decide) (by decide)) (hs _ _ _ c1 (by decide) (by decide)) (hs _ _ _ t1 (by decide) (by decide)) (hs _ _ _ g1 (by decide) (by decide)) (fun m hm => ?_), h.ay.ok, h.ay.lo, h.ay.k.trans' hk (fun _ _ h => h) (fun y _ hy => ?_)⟩, h.lx, L', by rw [e]; exact h1, h3⟩, Stay.of hk fun y c hy => hs y c _ hy (by decide) (by decide)⟩
  · obtain ⟨cs, s1, _⟩ := h.ay.ar.st m hm
    exact hs _ _ _ s1 (by decide) (by decide)
  · rcases hy with rfl | rfl
    · exact h.lx
    · exact h1
/-! the ops -/
theorem Pr.pmake (h : Pr N w0 w a LA x A B) (m n : Int) (hd : Bool) : Calls Tryz.prog 43 #[.pointer (some ⟨a, 0, none⟩), .int .i64 m, .int .i64 n, .bool hd] w
    fun e w' => (∃ u v, e = .returned (.tuple #[u, v])) ∧ Pr N w0 w' a LA x (A.makeR m n hd).A B ∧ Stay w w' :=
  (h.ay.make m n hd).mono fun _ _ ⟨h1, h2, h3⟩ => ⟨⟨_, _, h1⟩, h.prog h3 h2, h.ay.stay h3⟩
theorem Pr.pload (h : Pr N w0 w a LA x A B) (m i f : Int) : Calls Tryz.prog 45 #[.pointer (some ⟨a, 0, none⟩), .int .i64 m, .int .i64 i, .int .i64 f] w
    fun e w' => (∃ u v, e = .returned (.tuple #[u, v])) ∧ Pr N w0 w' a LA x (A.loadR m i f).A B ∧ Stay w w' :=
  (h.ay.load m i f).mono fun _ _ ⟨h1, h2, h3⟩ => ⟨⟨_, _, h1⟩, h.prog h3 h2, h.ay.stay h3⟩
theorem Pr.pstore (h : Pr N w0 w a LA x A B) (m i f j : Int) : Calls Tryz.prog 47 #[.pointer (some ⟨a, 0, none⟩), .int .i64 m, .int .i64 i, .int .i64 f, .int .i64 j] w
    fun e w' => (∃ u v z, e = .returned (.tuple #[u, v, z])) ∧ Pr N w0 w' a LA x (A.storeR m i f j).A B ∧ Stay w w' :=
  (h.ay.store m i f j).mono fun _ _ ⟨h1, h2, h3⟩ => ⟨⟨_, _, _, h1⟩, h.prog h3 h2, h.ay.stay h3⟩
theorem Pr.pdrop (h : Pr N w0 w a LA x A B) (m i : Int) : Calls Tryz.prog 32 #[.pointer (some ⟨a, 0, none⟩), .int .i64 m, .int .i64 i] w
    fun e w' => (∃ u v, e = .returned (.tuple #[u, v])) ∧ Pr N w0 w' a LA x (A.dropR m i).A B ∧ Stay w w' :=
  (h.ay.drop m i).mono fun _ _ ⟨h1, h2, h3⟩ => ⟨⟨_, _, h1⟩, h.prog h3 h2, h.ay.stay h3⟩
theorem Pr.pput (h : Pr N w0 w a LA x A B) (m i k : Int) : Calls Tryz.prog 50 #[.pointer (some ⟨a, 0, none⟩), .int .i64 m, .int .i64 i, .int .i64 k] w
    fun e w' => (∃ u v z, e = .returned (.tuple #[u, v, z])) ∧ Pr N w0 w' a LA x (A.putR m i k).A B ∧ Stay w w' :=
  (h.ay.put m i k).mono fun _ _ ⟨h1, h2, h3⟩ => ⟨⟨_, _, _, h1⟩, h.prog h3 h2, h.ay.stay h3⟩
theorem Pr.pget (h : Pr N w0 w a LA x A B) (m k : Int) : Calls Tryz.prog 52 #[.pointer (some ⟨a, 0, none⟩), .int .i64 m, .int .i64 k] w
    fun e w' => (∃ u v, e = .returned (.tuple #[u, v])) ∧ Pr N w0 w' a LA x (A.getR m k).A B ∧ Stay w w' :=
  (h.ay.get m k).mono fun _ _ ⟨h1, h2, h3⟩ => ⟨⟨_, _, h1⟩, h.prog h3 h2, h.ay.stay h3⟩
theorem Pr.pfree (h : Pr N w0 w a LA x A B) (r : Rf) : Calls Tryz.prog 54 #[.pointer (some ⟨a, 0, none⟩), .agg #[.int .i64 r.s, .int .u32 r.g]] w
    fun e w' => (∃ u, e = .returned u) ∧ Pr N w0 w' a LA x (A.freeR r).1 B ∧ Keeps (fun y => LA.foot A.many y) w w' ∧ Stay w w' :=
  (h.ay.free r).mono fun _ _ ⟨h1, h2, h3⟩ => ⟨⟨_, h1⟩, h.prog h3 h2, h3, h.ay.stay h3⟩
theorem Pr.dmake (h : Pr N w0 w a LA x A B) (m n : Int) (hd : Bool) : Calls Tryz.prog 44 #[.pointer (some ⟨x, 0, none⟩), .int .i64 m, .int .i64 n, .bool hd] w
    fun e w' => (∃ u v, e = .returned (.tuple #[u, v])) ∧ Pr N w0 w' a LA x A (B.makeR m n hd).A ∧ Stay w w' := by
  obtain ⟨LR, h1, h2⟩ := h.doc
  exact (make18 m n hd h2).mono fun _ _ ⟨e1, e2⟩ => ⟨⟨_, _, e1⟩, h.docs ⟨LR, _, h1, h2, e2⟩⟩
theorem Pr.dload (h : Pr N w0 w a LA x A B) (m i f : Int) : Calls Tryz.prog 46 #[.pointer (some ⟨x, 0, none⟩), .int .i64 m, .int .i64 i, .int .i64 f] w
    fun e w' => (∃ u v, e = .returned (.tuple #[u, v])) ∧ Pr N w0 w' a LA x A (B.loadR m i f).A ∧ Stay w w' := by
  obtain ⟨LR, h1, h2⟩ := h.doc
  exact (load18 m i f h2).mono fun _ _ ⟨e1, e2⟩ => ⟨⟨_, _, e1⟩, h.docs ⟨LR, _, h1, h2, e2⟩⟩
theorem Pr.dstore (h : Pr N w0 w a LA x A B) (m i f j : Int) : Calls Tryz.prog 48 #[.pointer (some ⟨x, 0, none⟩), .int .i64 m, .int .i64 i, .int .i64 f, .int .i64 j] w
    fun e w' => (∃ u v z, e = .returned (.tuple #[u, v, z])) ∧ Pr N w0 w' a LA x A (B.storeR m i f j).A ∧ Stay w w' := by
  obtain ⟨LR, h1, h2⟩ := h.doc
  exact (store18 m i f j h2).mono fun _ _ ⟨e1, e2⟩ => ⟨⟨_, _, _, e1⟩, h.docs ⟨LR, _, h1, h2, e2⟩⟩
theorem Pr.ddrop (h : Pr N w0 w a LA x A B) (m i : Int) : Calls Tryz.prog 49 #[.pointer (some ⟨x, 0, none⟩), .int .i64 m, .int .i64 i] w
    fun e w' => (∃ u v, e = .returned (.tuple #[u, v])) ∧ Pr N w0 w' a LA x A (B.dropR m i).A ∧ Stay w w' := by
  obtain ⟨LR, h1, h2⟩ := h.doc
  exact (drop18 m i h2).mono fun _ _ ⟨e1, e2⟩ => ⟨⟨_, _, e1⟩, h.docs ⟨LR, _, h1, h2, e2⟩⟩
theorem Pr.dput (h : Pr N w0 w a LA x A B) (m i k : Int) : Calls Tryz.prog 51 #[.pointer (some ⟨x, 0, none⟩), .int .i64 m, .int .i64 i, .int .i64 k] w
    fun e w' => (∃ u v z, e = .returned (.tuple #[u, v, z])) ∧ Pr N w0 w' a LA x A (B.putR m i k).A ∧ Stay w w' := by
  obtain ⟨LR, h1, h2⟩ := h.doc
  exact (put18 m i k h2).mono fun _ _ ⟨e1, e2⟩ => ⟨⟨_, _, _, e1⟩, h.docs ⟨LR, _, h1, h2, e2⟩⟩
theorem Pr.dget (h : Pr N w0 w a LA x A B) (m k : Int) : Calls Tryz.prog 53 #[.pointer (some ⟨x, 0, none⟩), .int .i64 m, .int .i64 k] w
    fun e w' => (∃ u v, e = .returned (.tuple #[u, v])) ∧ Pr N w0 w' a LA x A (B.getR m k).A ∧ Stay w w' := by
  obtain ⟨LR, h1, h2⟩ := h.doc
  exact (get18 m k h2).mono fun _ _ ⟨e1, e2⟩ => ⟨⟨_, _, e1⟩, h.docs ⟨LR, _, h1, h2, e2⟩⟩
theorem Pr.dfree (h : Pr N w0 w a LA x A B) (r : Rf) : Calls Tryz.prog 55 #[.pointer (some ⟨x, 0, none⟩), .agg #[.int .i64 r.s, .int .u32 r.g]] w
    fun e w' => (∃ u, e = .returned u) ∧ Pr N w0 w' a LA x A (B.freeR r).1 ∧ Stay w w' := by
  obtain ⟨LR, h1, h2⟩ := h.doc
  exact (free18 r h2).mono fun _ _ ⟨e1, e2⟩ => ⟨⟨_, e1⟩, h.docs ⟨LR, _, h1, h2, e2⟩⟩
end

theorem cells5s {w : World} {b : Nat} {v0 v1 v2 v3 v4 : Value} {t : TypeId} (h : w.heap[b]? = some (.cells #[v0, v1, v2, v3, v4] t)) :
    w.cell? ⟨b, 0, none⟩ = some v0 ∧ w.cell? ⟨b, 1, none⟩ = some v1 ∧ w.cell? ⟨b, 2, none⟩ = some v2 ∧ w.cell? ⟨b, 3, none⟩ = some v3 ∧ w.cell? ⟨b, 4, none⟩ = some v4 ∧ b < w.heap.size :=
  ⟨cell_at h rfl, cell_at h rfl, cell_at h rfl, cell_at h rfl, cell_at h rfl, lt_block h⟩
structure Sp where
  k : Nat
  m : Int
  a : Int
  b : Int
  c : Int
structure SpCell (w : World) (b o : Nat) (x : Sp) : Prop where
  lt : x.k < 256
  c0 : w.cell? ⟨b, o, none⟩ = some (.int .u8 x.k)
  c1 : w.cell? ⟨b, o + 1, none⟩ = some (.int .i64 x.m)
  c2 : w.cell? ⟨b, o + 2, none⟩ = some (.int .i64 x.a)
  c3 : w.cell? ⟨b, o + 3, none⟩ = some (.int .i64 x.b)
  c4 : w.cell? ⟨b, o + 4, none⟩ = some (.int .i64 x.c)
def SpRow (w : World) (v : Value) (l : List Sp) : Prop := ∃ a cap, v = .slice a l.length cap ∧ l.length ≤ cap ∧ cap ≤ maxLen ∧ (l = [] ∨ ∃ b off, a = some ⟨b, off, none⟩ ∧ b < w.heap.size ∧ ∀ (i : Nat) (x : Sp), l[i]? = some x → SpCell w b (off + i * 5) x)
theorem SpCell.same {w w' : World} {b o : Nat} {x : Sp} (h : SpCell w b o x) (hb : w'.heap[b]? = w.heap[b]?) : SpCell w' b o x := by
  have e := fun k => World.cell?_of_block (w := w) (w' := w') (a := ⟨b, k, none⟩) hb
  exact ⟨h.lt, (e _).trans h.c0, (e _).trans h.c1, (e _).trans h.c2, (e _).trans h.c3, (e _).trans h.c4⟩
section
variable {w0 w w' : World} {a x : Nat} {LA : ArL} {A : Ar}
set_option maxRecDepth 100000 in
set_option maxHeartbeats 4000000 in
theorem build19 (v : Value) (l : List Sp) (h : Pr w0.heap.size w0 w a LA x A A) (hl : SpRow w0 v l) (h60 : l.length ≤ 60) :
    Calls Tryz.prog 10 #[.pointer (some ⟨a, 0, none⟩), .pointer (some ⟨x, 0, none⟩), v] w fun e w' => e = .returned (.tuple #[]) ∧ ∃ A', Pr w0.heap.size w0 w' a LA x A' A' := by
  obtain ⟨pa, cap, rfl, hcap, hmax, hx⟩ := hl
  have HX := hid hx; have H0 := hid h
  clear hx h
  go_enter Tryz.func10, Tryz.ntmps10
  go_wp2_with fail
  go_loopw [12] (fun ix wr => ∃ (k : Nat) (A : Ar), k ≤ l.length ∧ ix = .int .i64 k ∧ Hid (Pr w0.heap.size w0 wr a LA x A A)) (fun ix _ => l.length - (intOf ix).toNat)
  case atStart => exact ⟨0, A, Nat.zero_le _, rfl, H0⟩
  case round =>
    clear H0
    obtain ⟨k, A, hk, rfl, HA⟩ := hrel
    have hk0 : (0 : Int) ≤ k := by omega
    by_cases hlt : k < l.length
    · obtain ⟨y, hy⟩ : ∃ y, l[k]? = some y := ⟨_, List.getElem?_eq_getElem hlt⟩
      have hlt' : (k : Int) < (l.length : Int) := by omega
      obtain ⟨b, off, rfl, hb, hcl⟩ := HX.out.resolve_left (by intro h; rw [h] at hlt; simp at hlt)
      have hce := (hcl k y hy).same (HA.out.ay.k.block b hb (by omega))
      obtain ⟨hby, c0, c1, c2, c3, c4⟩ := hce
      have hbw : b < wr.heap.size := Nat.lt_of_lt_of_le hb HA.out.ay.k.size
      obtain ⟨wz, hwz⟩ : ∃ wz, wr.alloc (.cells #[.int .u8 y.k, .int .i64 y.m, .int .i64 y.a, .int .i64 y.b, .int .i64 y.c] 95) = wz := ⟨_, rfl⟩
      have HZ := hid (show Pr w0.heap.size w0 wz a LA x A A from by rw [← hwz]; exact HA.out.quiet ((Keeps.refl _ _).alloc _))
      have HQ := hid (show wz.heap[wr.heap.size]? = some (.cells #[.int .u8 y.k, .int .i64 y.m, .int .i64 y.a, .int .i64 y.b, .int .i64 y.c] 95) from by rw [← hwz]; exact alloc_new)
      have HWZ := hid hwz
      obtain ⟨q, hq⟩ : ∃ q, y.k % 8 = q := ⟨_, rfl⟩
      have hq8 : q < 8 := by omega
      have hq1 : (y.k : Int) % 8 = (q : Int) := by omega
      have hq2 : (y.k : Int).tmod 8 = (q : Int) := by rw [Int.tmod_eq_emod_of_nonneg (by omega)]; exact hq1
      have hqw : IntKind.u8.wrap (q : Int) = (q : Int) := IntWalk.u8_in _ (by omega)
      obtain ⟨z0, z1, z2, z3, z4, hzl⟩ := cells5s HQ.out
      clear hcl hy hwz hq
      go_upto_region 3 with (fail)
      rw [HWZ.out]
      have hqc : q = 0 ∨ q = 1 ∨ q = 2 ∨ q = 3 ∨ q = 4 ∨ q = 5 ∨ q = 6 ∨ q = 7 := by omega
      rcases hqc with rfl | rfl | rfl | rfl | rfl | rfl | rfl | rfl
      · go_wp2_with fail
        refine (HZ.out.pmake _ _ _ ).mono ?_
        rintro e w2 ⟨⟨u, v, rfl⟩, h2, hs2⟩
        have H2 := hid h2
        clear z0 z1 z2 z3 z4 hzl c0 c1 c2 c3 c4
        obtain ⟨z0, z1, z2, z3, z4, hzl⟩ := cells5s (hs2 _ _ HQ.out)
        clear hs2 h2
        go_wp2_with fail
        refine (H2.out.dmake _ _ _ ).mono ?_
        rintro e w3 ⟨⟨u, v, rfl⟩, h3, hs3⟩
        have H3 := hid h3
        clear z0 z1 z2 z3 z4 hzl hs3 h3
        go_wp2_with fail
        exact ⟨⟨k + 1, _, by omega, by go_num, H3⟩, by simp [intOf]; omega⟩
      · go_wp2_with fail
        refine (HZ.out.pload _ _ _ ).mono ?_
        rintro e w2 ⟨⟨u, v, rfl⟩, h2, hs2⟩
        have H2 := hid h2
        clear z0 z1 z2 z3 z4 hzl c0 c1 c2 c3 c4
        obtain ⟨z0, z1, z2, z3, z4, hzl⟩ := cells5s (hs2 _ _ HQ.out)
        clear hs2 h2
        go_wp2_with fail
        refine (H2.out.dload _ _ _ ).mono ?_
        rintro e w3 ⟨⟨u, v, rfl⟩, h3, hs3⟩
        have H3 := hid h3
        clear z0 z1 z2 z3 z4 hzl hs3 h3
        go_wp2_with fail
        exact ⟨⟨k + 1, _, by omega, by go_num, H3⟩, by simp [intOf]; omega⟩
      · go_wp2_with fail
        refine (HZ.out.pstore _ _ _ _ ).mono ?_
        rintro e w2 ⟨⟨u, v, z, rfl⟩, h2, hs2⟩
        have H2 := hid h2
        clear z0 z1 z2 z3 z4 hzl c0 c1 c2 c3 c4
        obtain ⟨z0, z1, z2, z3, z4, hzl⟩ := cells5s (hs2 _ _ HQ.out)
        clear hs2 h2
        go_wp2_with fail
        refine (H2.out.dstore _ _ _ _ ).mono ?_
        rintro e w3 ⟨⟨u, v, z, rfl⟩, h3, hs3⟩
        have H3 := hid h3
        clear z0 z1 z2 z3 z4 hzl hs3 h3
        go_wp2_with fail
        exact ⟨⟨k + 1, _, by omega, by go_num, H3⟩, by simp [intOf]; omega⟩
      · go_wp2_with fail
        refine (HZ.out.pstore _ _ _ _ ).mono ?_
        rintro e w2 ⟨⟨u, v, z, rfl⟩, h2, hs2⟩
        have H2 := hid h2
        clear z0 z1 z2 z3 z4 hzl c0 c1 c2 c3 c4
        obtain ⟨z0, z1, z2, z3, z4, hzl⟩ := cells5s (hs2 _ _ HQ.out)
        clear hs2 h2
        go_wp2_with fail
        refine (H2.out.dstore _ _ _ _ ).mono ?_
        rintro e w3 ⟨⟨u, v, z, rfl⟩, h3, hs3⟩
        have H3 := hid h3
        clear z0 z1 z2 z3 z4 hzl hs3 h3
        go_wp2_with fail
        exact ⟨⟨k + 1, _, by omega, by go_num, H3⟩, by simp [intOf]; omega⟩
      · go_wp2_with fail
        refine (HZ.out.pdrop _ _ ).mono ?_
        rintro e w2 ⟨⟨u, v, rfl⟩, h2, hs2⟩
        have H2 := hid h2
        clear z0 z1 z2 z3 z4 hzl c0 c1 c2 c3 c4
        obtain ⟨z0, z1, z2, z3, z4, hzl⟩ := cells5s (hs2 _ _ HQ.out)
        clear hs2 h2
        go_wp2_with fail
        refine (H2.out.ddrop _ _ ).mono ?_
        rintro e w3 ⟨⟨u, v, rfl⟩, h3, hs3⟩
        have H3 := hid h3
        clear z0 z1 z2 z3 z4 hzl hs3 h3
        go_wp2_with fail
        exact ⟨⟨k + 1, _, by omega, by go_num, H3⟩, by simp [intOf]; omega⟩
      · go_wp2_with fail
        refine (HZ.out.pput _ _ _ ).mono ?_
        rintro e w2 ⟨⟨u, v, z, rfl⟩, h2, hs2⟩
        have H2 := hid h2
        clear z0 z1 z2 z3 z4 hzl c0 c1 c2 c3 c4
        obtain ⟨z0, z1, z2, z3, z4, hzl⟩ := cells5s (hs2 _ _ HQ.out)
        clear hs2 h2
        go_wp2_with fail
        refine (H2.out.dput _ _ _ ).mono ?_
        rintro e w3 ⟨⟨u, v, z, rfl⟩, h3, hs3⟩
        have H3 := hid h3
        clear z0 z1 z2 z3 z4 hzl hs3 h3
        go_wp2_with fail
        exact ⟨⟨k + 1, _, by omega, by go_num, H3⟩, by simp [intOf]; omega⟩
      · go_wp2_with fail
        refine (HZ.out.pget _ _ ).mono ?_
        rintro e w2 ⟨⟨u, v, rfl⟩, h2, hs2⟩
        have H2 := hid h2
        clear z0 z1 z2 z3 z4 hzl c0 c1 c2 c3 c4
        obtain ⟨z0, z1, z2, z3, z4, hzl⟩ := cells5s (hs2 _ _ HQ.out)
        clear hs2 h2
        go_wp2_with fail
        refine (H2.out.dget _ _ ).mono ?_
        rintro e w3 ⟨⟨u, v, rfl⟩, h3, hs3⟩
        have H3 := hid h3
        clear z0 z1 z2 z3 z4 hzl hs3 h3
        go_wp2_with fail
        exact ⟨⟨k + 1, _, by omega, by go_num, H3⟩, by simp [intOf]; omega⟩
      · go_wp2_with fail
        obtain ⟨LR, lb, hR⟩ := HZ.out.doc
        refine (heap18 hR).mono ?_
        rintro e w2 ⟨b', r', rfl, k2, _, _, h14⟩
        have K2 := hid k2
        have HAL := hid (all14 h14)
        have htk := tk_len14 h14
        clear h14 k2 z0 z1 z2 z3 z4 hzl c0 c1 c2 c3 c4 hR
        obtain ⟨tk, htke⟩ : ∃ tk, A.H.T.tk = tk := ⟨_, rfl⟩
        rw [htke] at HAL htk
        clear htke
        go_wp2_with fail
        refine HAL.out.mono ?_
        rintro e w3 ⟨v8, rfl, hr8, k3⟩
        have K3 := hid (K2.out.trans k3)
        obtain ⟨p8, c8, rfl⟩ := hr8.refs.slice
        have HC8 := hid hr8.refs.cell.2
        obtain ⟨z0, z1, z2, z3, z4, hzl⟩ := cells5s (block_keep HQ.out K3.out (fun h => h))
        have H3 := hid (HZ.out.quiet K3.out)
        clear k3 hr8 HAL
        obtain ⟨n, hn⟩ : ∃ n, tk.length = n := ⟨_, rfl⟩
        have HN := hid hn
        rw [hn] at htk ⊢
        by_cases hn0 : 0 < n
        · have hn0' : (0 : Int) < (n : Int) := by omega
          obtain ⟨u, hu⟩ : ∃ u : Nat, IntKind.u64.wrap y.a = (u : Int) := ⟨(y.a % 18446744073709551616).toNat, by rw [IntKind.wrap_u64]; omega⟩
          have hul : u < 18446744073709551616 := by rw [IntKind.wrap_u64] at hu; omega
          have hnw : IntKind.u64.wrap (n : Int) = (n : Int) := IntWalk.u64_in _ (by omega)
          have hnz : ¬ (n : Int) = 0 := by omega
          obtain ⟨j, hj⟩ : ∃ j, u % n = j := ⟨_, rfl⟩
          have hjn : j < n := by rw [← hj]; exact Nat.mod_lt _ hn0
          have hj1 : (u : Int) % (n : Int) = (j : Int) := by rw [← hj]; simp
          have hj2 : (u : Int).tmod (n : Int) = (j : Int) := by rw [Int.tmod_eq_emod_of_nonneg (by omega)]; exact hj1
          have hjw : IntKind.u64.wrap (j : Int) = (j : Int) := IntWalk.u64_in _ (by omega)
          have hjw2 : IntKind.i64.wrap (j : Int) = (j : Int) := IntWalk.i64_in _ (by omega)
          have hj0 : (0 : Int) ≤ (j : Int) := by omega
          have hjn' : (j : Int) < (n : Int) := by omega
          obtain ⟨r, hr⟩ : ∃ r, tk[j]? = some r := ⟨_, List.getElem?_eq_getElem (by rw [HN.out]; exact hjn)⟩
          obtain ⟨g, rfl, hgl, d0, d1⟩ := HC8.out j r hr
          clear hj hr
          have H4 := hid (H3.out.quiet ((Keeps.refl (fun _ => False) w3).alloc (.cells #[.int .i64 r.s, .int .u32 r.g] 41)))
          go_wp2_with fail
          refine (H4.out.pfree r).mono ?_
          rintro e w5 ⟨⟨u5, rfl⟩, h5, k5, _⟩
          have H5 := hid h5
          obtain ⟨e0, e1, _, el⟩ := cells2 (block_keep (alloc_new (w := w3) (o := .cells #[.int .i64 r.s, .int .u32 r.g] 41)) k5 (H4.out.ay.alien _ _ _ alloc_new (by simp)))
          clear h5 k5 z0 z1 z2 z3 z4 hzl d0 d1 hgl
          go_wp2_with fail
          refine (H5.out.dfree r).mono ?_
          rintro e w6 ⟨⟨u6, rfl⟩, h6, _⟩
          have H6 := hid h6
          clear h6 e0 e1 el
          go_wp2_with fail
          exact ⟨⟨k + 1, _, by omega, by go_num, H6⟩, by simp [intOf]; omega⟩
        · obtain rfl : n = 0 := by omega
          go_wp2_with fail
          exact ⟨⟨k + 1, _, by omega, by go_num, H3⟩, by simp [intOf]; omega⟩
    · obtain rfl : k = l.length := by omega
      have hlt' : ¬ (l.length : Int) < (l.length : Int) := by omega
      go_wp2_with fail
      go_end0
      exact ⟨rfl, A, HA.out⟩
end

end Go.Proofs.YtkpnmajocgcccaaGreat

namespace Go.Proofs.YtkpnmajocgcccaaGreat
open Go.RowKit Go.ChangeShapes Go.WideShapes Go.ChangeAt Go.Deep
set_option linter.unusedVariables false
set_option linter.unusedSimpArgs false

set_option maxRecDepth 100000 in
set_option maxHeartbeats 1000000 in
theorem hnew_bad (n g : Int) (w : World) (hb : n < 1 ∨ 256 < n ∨ g < 1) :
    Calls Tryz.prog 33 #[.int .i64 n, .int .u32 g] w fun e w' => e = .returned (.tuple #[.pointer none, .int .i64 2]) ∧ w' = w := by
  have hc : n < 1 ∨ (1 ≤ n ∧ 256 < n) ∨ (1 ≤ n ∧ n ≤ 256 ∧ g < 1) := by omega
  clear hb
  rcases hc with h1 | ⟨h1, h2⟩ | ⟨h1, h2, h3⟩
  all_goals
    go_enter Tryz.func33, Tryz.ntmps33
    go_wp2_with fail
    go_ret2
    exact ⟨rfl, rfl⟩
set_option maxRecDepth 100000 in
set_option maxHeartbeats 2000000 in
theorem anew_bad (n m g : Int) (w : World) (hb : (n < 1 ∨ 256 < n ∨ g < 1) ∨ m < 1 ∨ 4 < m) (hg : g ≤ 4294967295) :
    Calls Tryz.prog 6 #[.int .i64 n, .int .i64 m, .int .u32 g] w fun e w' => e = .returned (.tuple #[.pointer none, .int .i64 2]) ∧ Keeps (fun _ => False) w w' := by
  by_cases h1 : n < 1 ∨ 256 < n ∨ g < 1
  · have H := hid (hnew_bad n g w h1)
    clear hb h1
    go_enter Tryz.func6, Tryz.ntmps6
    go_wp2_with fail
    refine H.out.mono ?_
    rintro e w1 ⟨rfl, hw⟩
    obtain rfl := hw.symm
    go_wp2_with fail
    go_ret2
    exact ⟨rfl, Keeps.refl _ _⟩
  · have H := hid (hnew_ok n g w (by omega) (by omega) (by omega) hg)
    have hc : m < 1 ∨ (¬ m < 1 ∧ 4 < m) := by omega
    clear hb h1
    rcases hc with h1 | ⟨h1, h2⟩
    all_goals
      go_enter Tryz.func6, Tryz.ntmps6
      go_wp2_with fail
      refine H.out.mono ?_
      rintro e w1 ⟨b', r', rfl, k1, _, _, _⟩
      go_wp2_with fail
      go_ret2
      exact ⟨rfl, k1⟩
def ksStep : List Flat := [.int .u8, .int .i64, .int .i64, .int .i64, .int .i64]
theorem spcell_of {w : World} {b o : Nat} (h : CellsAt w b o ksStep) : ∃ x, SpCell w b o x := by
  obtain ⟨_, h0, k0⟩ := h 0 _ rfl
  obtain ⟨_, h1, x1, rfl, k1⟩ := h 1 _ rfl
  obtain ⟨_, h2, x2, rfl, k2⟩ := h 2 _ rfl
  obtain ⟨_, h3, x3, rfl, k3⟩ := h 3 _ rfl
  obtain ⟨_, h4, x4, rfl, k4⟩ := h 4 _ rfl
  obtain ⟨a0, rfl, l0⟩ := byte_of k0
  exact ⟨⟨a0, x1, x2, x3, x4⟩, l0, h0, h1, h2, h3, h4⟩
theorem sprow_of {w : World} {a : Option Addr} {len cap : Nat} (h1 : len ≤ cap) (h2 : cap ≤ maxLen) (h : len = 0 ∨ ∃ b off, a = some ⟨b, off, none⟩ ∧ b < w.heap.size ∧ ∀ i, i < len → CellsAt w b (off + i * ksStep.length) ksStep) :
    ∃ l, SpRow w (.slice a len cap) l := by
  rcases h with rfl | ⟨b, off, rfl, hb, hx⟩
  · exact ⟨[], a, cap, rfl, h1, h2, .inl rfl⟩
  · have hc : ∀ i : Nat, ∃ x, i < len → SpCell w b (off + i * 5) x := fun i => by
      by_cases hi : i < len
      · obtain ⟨x, hx⟩ := spcell_of (hx i hi); exact ⟨x, fun _ => hx⟩
      · exact ⟨⟨0, 0, 0, 0, 0⟩, fun h => absurd h hi⟩
    obtain ⟨f, hf⟩ := Classical.axiomOfChoice hc
    refine ⟨(List.range len).map f, _, cap, by simp, by simpa using h1, h2, .inr ⟨b, off, rfl, hb, fun i x hi => ?_⟩⟩
    rw [List.getElem?_map] at hi
    by_cases hl : i < len
    · rw [List.getElem?_range hl] at hi
      simp only [Option.map_some, Option.some.injEq] at hi
      subst hi
      exact hf i hl
    · rw [List.getElem?_eq_none (by simpa using hl)] at hi
      cases hi
end Go.Proofs.YtkpnmajocgcccaaGreat
