/- estraylaw19: names, the arena of the examples. -/
import Derived.Test.YtehmoikbeflkaaaGreatRcH
namespace Go.Proofs.YtehmoikbeflkaaaGreat
open Go.RowKit
set_option linter.unusedVariables false
set_option linter.unusedSimpArgs false

structure Ay (N : Nat) (w0 w : World) (a : Nat) (L : ArL) (A : Ar) : Prop where
  ar : ArIn w a L A
  ok : A.Ok
  lo : ∀ y, L.foot A.many y → N ≤ y
  k : Keeps (fun y => N ≤ y) w0 w
variable {N : Nat} {w0 w w' : World} {a : Nat} {L : ArL} {A A' : Ar}
theorem Ay.op (h : Ay N w0 w a L A) (hk : Keeps (fun y => L.foot A.many y) w w') (ha : ArIn w' a L A') (ok : A'.Ok) (hm : A'.many = A.many) : Ay N w0 w' a L A' :=
  ⟨ha, ok, fun y hy => h.lo y (by rw [← hm]; exact hy), h.k.trans' hk (fun _ _ h => h) (fun y _ hy => h.lo y hy)⟩
theorem Ay.make (h : Ay N w0 w a L A) (m n : Int) (hd : Bool) : Calls Tryz.prog 99 #[.pointer (some ⟨a, 0, none⟩), .int .i64 m, .int .i64 n, .bool hd] w
    fun e w' => e = .returned (.tuple #[(A.makeR m n hd).now.val, .int .i64 (A.makeR m n hd).e]) ∧ Ay N w0 w' a L (A.makeR m n hd).A ∧ Keeps (fun y => L.foot A.many y) w w' :=
  (amake_any a L A m n hd w h.ar h.ok).mono fun _ _ ⟨h1, h2, h3⟩ => ⟨h1, h.op h2 h3 (h.ok.makeR _ _ _) (A.makeR_n _ _ _).2, h2⟩
theorem Ay.store (h : Ay N w0 w a L A) (m i f j : Int) : Calls Tryz.prog 103 #[.pointer (some ⟨a, 0, none⟩), .int .i64 m, .int .i64 i, .int .i64 f, .int .i64 j] w
    fun e w' => e = .returned (.tuple #[(A.storeR m i f j).was.val, (A.storeR m i f j).now.val, .int .i64 (A.storeR m i f j).e]) ∧ Ay N w0 w' a L (A.storeR m i f j).A ∧ Keeps (fun y => L.foot A.many y) w w' :=
  (astore_any a L A m i f j w h.ar h.ok).mono fun _ _ ⟨h1, h2, h3⟩ => ⟨h1, h.op h2 h3 (h.ok.storeR _ _ _ _) (A.storeR_n _ _ _ _).2, h2⟩
theorem Ay.put (h : Ay N w0 w a L A) (m i k : Int) : Calls Tryz.prog 106 #[.pointer (some ⟨a, 0, none⟩), .int .i64 m, .int .i64 i, .int .i64 k] w
    fun e w' => e = .returned (.tuple #[(A.putR m i k).was.val, (A.putR m i k).now.val, .int .i64 (A.putR m i k).e]) ∧ Ay N w0 w' a L (A.putR m i k).A ∧ Keeps (fun y => L.foot A.many y) w w' :=
  (aput_any a L A m i k w h.ar h.ok).mono fun _ _ ⟨h1, h2, h3⟩ => ⟨h1, h.op h2 h3 (h.ok.putR _ _ _) (A.putR_n _ _ _).2, h2⟩
theorem Ay.drop (h : Ay N w0 w a L A) (m i : Int) : Calls Tryz.prog 88 #[.pointer (some ⟨a, 0, none⟩), .int .i64 m, .int .i64 i] w
    fun e w' => e = .returned (.tuple #[(A.dropR m i).now.val, .int .i64 (A.dropR m i).e]) ∧ Ay N w0 w' a L (A.dropR m i).A ∧ Keeps (fun y => L.foot A.many y) w w' :=
  (adrop_any a L A m i w h.ar).mono fun _ _ ⟨h1, h2, h3⟩ => ⟨h1, h.op h2 h3 (h.ok.dropR _ _) (A.dropR_n _ _).2, h2⟩
theorem Ay.load (h : Ay N w0 w a L A) (m i f : Int) : Calls Tryz.prog 101 #[.pointer (some ⟨a, 0, none⟩), .int .i64 m, .int .i64 i, .int .i64 f] w
    fun e w' => e = .returned (.tuple #[(A.loadR m i f).now.val, .int .i64 (A.loadR m i f).e]) ∧ Ay N w0 w' a L (A.loadR m i f).A ∧ Keeps (fun y => L.foot A.many y) w w' :=
  (aload_any a L A m i f w h.ar h.ok).mono fun _ _ ⟨h1, h2, h3⟩ => ⟨h1, h.op h2 h3 (h.ok.loadR _ _ _) (A.loadR_n _ _ _).2, h2⟩
theorem Ay.get (h : Ay N w0 w a L A) (m k : Int) : Calls Tryz.prog 108 #[.pointer (some ⟨a, 0, none⟩), .int .i64 m, .int .i64 k] w
    fun e w' => e = .returned (.tuple #[(A.getR m k).now.val, .int .i64 (A.getR m k).e]) ∧ Ay N w0 w' a L (A.getR m k).A ∧ Keeps (fun y => L.foot A.many y) w w' :=
  (aget_any a L A m k w h.ar h.ok).mono fun _ _ ⟨h1, h2, h3⟩ => ⟨h1, h.op h2 h3 (h.ok.getR _ _) (A.getR_n _ _).2, h2⟩
theorem Ay.free (h : Ay N w0 w a L A) (r : Rf) : Calls Tryz.prog 110 #[.pointer (some ⟨a, 0, none⟩), .agg #[.int .i64 r.s, .int .u32 r.g]] w
    fun e w' => e = .returned (.int .i64 (A.freeR r).2) ∧ Ay N w0 w' a L (A.freeR r).1 ∧ Keeps (fun y => L.foot A.many y) w w' :=
  (afree_any a L A r w h.ar h.ok).mono fun _ _ ⟨h1, h2, h3⟩ => ⟨h1, h.op h2 h3 (h.ok.freeR _) (A.freeR_n _).2, h2⟩
theorem Ay.new (n k : Nat) (w : World) (n1 : 1 ≤ n) (n2 : n ≤ 256) (k1 : 1 ≤ k) (k4 : k ≤ 4) :
    Calls Tryz.prog 24 #[.int .i64 n, .int .i64 k, .int .u32 1] w fun e w' => ∃ a L, e = .returned (.tuple #[.pointer (some ⟨a, 0, none⟩), .int .i64 0]) ∧ Ay w.heap.size w w' a L (Ar.new n k 1) := by
  refine (anew_ok n k 1 w (by omega) (by omega) k1 k4 (by omega) (by omega)).mono ?_
  rintro e w' ⟨a, rfl, hk, L, h1, h2⟩
  rw [Int.toNat_natCast] at h1 h2
  refine ⟨a, L, rfl, h1, Ar.Ok.new n1 n2 k1 k4 (by omega) (by omega), fun y hy => ?_, hk.up⟩
  rcases hy with rfl | rfl | rfl | ⟨j, hj, rfl⟩
  · exact h2.b.1
  · exact h2.t.1
  · exact h2.g.1
  · exact (h2.ss j hj).1
def IntsB (w : World) (v : Value) (l : List Int) : Prop := ∃ b c cur, v = .slice (some ⟨b, 0, none⟩) l.length c ∧ w.heap[b]? = some (.cells cur 3) ∧ ∀ (j : Nat) (x : Int), l[j]? = some x → cur[j]? = some (.int .i64 x)
theorem IntsB.keeps {v : Value} {l : List Int} (h : IntsB w v l) (hk : Keeps (fun _ => False) w w') : IntsB w' v l := by
  obtain ⟨b, c, cur, h1, h2, h3⟩ := h
  exact ⟨b, c, cur, h1, block_keep h2 hk (fun h => h), h3⟩
/-! the example -/
end Go.Proofs.YtehmoikbeflkaaaGreat
