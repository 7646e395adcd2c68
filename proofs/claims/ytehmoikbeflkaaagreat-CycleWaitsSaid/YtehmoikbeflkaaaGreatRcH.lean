/- Package reach: Path, Is, Depth. -/
import Derived.Test.YtehmoikbeflkaaaGreatRcF
import Derived.Test.YtehmoikbeflkaaaGreatRcA
import Derived.Shelf.SlicesQ.Reverse
namespace Go.Proofs.YtehmoikbeflkaaaGreat
open Go.RowKit
set_option linter.unusedVariables false
set_option linter.unusedSimpArgs false

/-! All, Lost -/
theorem tk_th {A : Ar} {r : Rf} (h : r ∈ A.H.T.tk) : There A.H r := by
  obtain ⟨⟨j, g⟩, h1, rfl⟩ := List.mem_map.1 h
  obtain ⟨h2, h3, h4⟩ := Tb.inn_mem h1
  exact There.of (by simp [rfOf]) (by simp [rfOf]; omega) (by simp [rfOf]; exact h2) (by simp [rfOf]; exact h3)
theorem lost1 (G b bm : Nat) (v : Value) (q : Qe) (r : Rf) (w : World) (hq : w.heap[G]? = some (.cells #[.pointer (some ⟨b, 0, none⟩), v, .map (some bm)] 173)) (hm : VMap w bm (QV q)) (hn : q.keys.Nodup) (hr : r.Nm) :
    Calls Tryz.prog 122 #[.agg #[.int .i64 r.s, .int .u32 r.g], .pointer (some ⟨G, 0, none⟩)] w fun e w' => e = .returned (.bool (decide (r ∈ q.keys))) ∧ Keeps (fun _ => False) w w' := by
  obtain ⟨c0, c1, c2, cl⟩ := cells3 hq
  have ka : Keeps (fun _ => False) w (w.alloc (.cells #[.int .i64 r.s, .int .u32 r.g] 33)) := (Keeps.refl _ _).alloc _
  have hlook := (hm.keeps ka (fun h => h)).look (t := 145) Tryz.underlying145 (ways_zero _) hr true
  obtain ⟨x, hx⟩ : ∃ x : Rf, Sem.run Tryz.prog (Instr.lookup 145 (.map (some bm)) (.agg #[.int .i64 r.s, .int .u32 r.g]) true) (w.alloc (.cells #[.int .i64 r.s, .int .u32 r.g] 33)) = .ok (.tuple #[.agg #[.int .i64 x.s, .int .u32 x.g], .bool (decide (r ∈ q.keys))]) (w.alloc (.cells #[.int .i64 r.s, .int .u32 r.g] 33)) := by
    rcases hlook with ⟨h1, h2⟩ | ⟨x, h1, h2⟩
    · refine ⟨.no, ?_⟩
      rw [decide_eq_false (fun hk => by
        obtain ⟨y, hy, e⟩ := List.mem_map.1 hk
        exact h1 (y.1, y.2.val) (List.mem_map.2 ⟨y, hy, rfl⟩) e)]
      rw [if_pos rfl] at h2
      exact h2
    · obtain ⟨y, hy, e⟩ := List.mem_map.1 h1
      injection e with e1 e2
      refine ⟨y.2, ?_⟩
      rw [decide_eq_true (QV.yes h1)]
      rw [if_pos rfl, ← e2] at h2
      exact h2
  obtain ⟨is, his⟩ : ∃ is, decide (r ∈ q.keys) = is := ⟨_, rfl⟩
  rw [his] at hx ⊢
  clear hq hm hn hr hlook his ka
  go_enter Tryz.func122, Tryz.ntmps122
  go_wp2_with fail
  go_ret
  exact ⟨rfl, ((Keeps.refl _ _).alloc _).alloc _⟩
def Ar.lostL (A : Ar) : List Rf := A.H.T.tk.filter (fun r => !decide (r ∈ A.rq.keys))
set_option maxHeartbeats 1000000 in
theorem lost_ok (a : Nat) (LA : ArL) (A : Ar) (w : World) (h : ArIn w a LA A) (hok : A.Ok) :
    Calls Tryz.prog 33 #[.pointer (some ⟨a, 0, none⟩)] w fun e w' => ∃ v, e = .returned (.tuple #[v, .int .i64 0]) ∧ Row w' w.heap.size v A.lostL ∧ Keeps (fun _ => False) w w' := by
  have HL := hid (look_ok a LA A w h hok)
  have hn256 := hok.n2
  have HNM := hid (fun r (hr : r ∈ A.H.T.tk) => (show r.Nm from (tk_th hr).nm hn256 (there_wf hok (tk_th hr))))
  have hl := tk_len A.H.T
  have elost : ∀ args w, (callFunc 122 args).run Tryz.prog w = .ok (.enter 122 args) w := enters_of Tryz.func122 (by kernel_rfl) rfl
  clear h hok
  go_enter Tryz.func33, Tryz.ntmps33
  go_wp2_with fail
  refine HL.out.mono ?_
  rintro e w1 ⟨b, t, v, bm, rfl, hh, hr, hm, k1⟩
  obtain ⟨p, c, rfl⟩ := hr.refs.slice
  obtain ⟨wb, hwb⟩ : ∃ wb, w1.alloc (.cells #[.pointer (some ⟨b, 0, none⟩), .slice p A.rq.keys.length c, .map (some bm)] 173) = wb := ⟨_, rfl⟩
  have kb : Keeps (fun _ => False) w1 wb := by rw [← hwb]; exact (Keeps.refl _ _).alloc _
  have qb : wb.heap[w1.heap.size]? = some (.cells #[.pointer (some ⟨b, 0, none⟩), .slice p A.rq.keys.length c, .map (some bm)] 173) := by rw [← hwb]; exact alloc_new
  have HAL := hid (hall_ok b t A.H wb (hh.keeps kb (fun h => h) (fun h => h)))
  have QB := hid qb; have K := hid (k1.trans kb); have HM := hid (hm.keeps kb (fun h => h))
  have hsb : w.heap.size ≤ wb.heap.size := K.out.size
  obtain ⟨G, hG⟩ : ∃ G, w1.heap.size = G := ⟨_, rfl⟩
  rw [hG] at QB
  have hGl := lt_block QB.out
  have hbl := HM.out.lt
  have hb2 := hwb
  clear hh hr hm k1 kb qb HL
  subst hwb
  go_wp2_with fail
  refine HAL.out.mono ?_
  rintro e w2 ⟨v2, rfl, hr2, k2⟩
  have HD := hid (rdelete_row 122 #[.pointer (some ⟨G, 0, none⟩)] (fun r => decide (r ∈ A.rq.keys)) v2 A.H.T.tk _ w2 hr2 (by omega) elost
    (fun x hx W hk => lost1 G b bm _ A.rq x W (block_keep (block_keep QB.out k2 (fun h => h)) hk (fun h => by have := (hr2.lt _ h).1; omega)) ((HM.out.keeps k2 (fun h => h)).keeps hk (fun h => by have := (hr2.lt _ h).1; omega)) (rq_nd A) (HNM.out x hx)))
  have HR2 := hid hr2
  have K2 := hid (K.out.trans k2)
  clear hr2 k2
  try rw [hG]
  go_wp2_with fail
  refine HD.out.mono ?_
  rintro e w3 ⟨v3, rfl, hr3, _, k3⟩
  have HR3 := hid (hr3.mono hsb)
  have K3 := hid ((K2.out.trans' k3 (U := fun y => w.heap.size ≤ y) (fun _ _ h => h.elim) (fun y _ h => by have := (HR2.out.lt y h).1; omega)).fresh)
  clear hr3 k3
  go_wp2_with fail
  go_ret2
  exact ⟨_, rfl, HR3.out, K3.out⟩
end Go.Proofs.YtehmoikbeflkaaaGreat

/- Package reach: Is, Depth, Closed. -/
namespace Go.Proofs.YtehmoikbeflkaaaGreat
open Go.RowKit
attribute [local go_sem] Oper.semAt_some
set_option linter.unusedVariables false
set_option linter.unusedSimpArgs false

end Go.Proofs.YtehmoikbeflkaaaGreat

namespace Go.Proofs.YtehmoikbeflkaaaGreat
open Go.RowKit
set_option linter.unusedVariables false
set_option linter.unusedSimpArgs false

structure Ay (N : Nat) (w0 w : World) (a : Nat) (L : ArL) (A : Ar) : Prop where
  ar : ArIn w a L A
  ok : A.Ok
  lo : ∀ y, L.foot A.many y → N ≤ y
  k : Keeps (fun y => N ≤ y) w0 w
variable {N : Nat} {w0 w w' : World} {a : Nat} {L : ArL} {A A' : Ar}
theorem Ay.op (h : Ay N w0 w a L A) (hk : Keeps (fun y => L.foot A.many y) w w') (ha : ArIn w' a L A') (ok : A'.Ok) (hm : A'.many = A.many) : Ay N w0 w' a L A' :=
  ⟨ha, ok, fun y hy => h.lo y (by rw [← hm]; exact hy), h.k.trans' hk (fun _ _ h => h) (fun y _ hy => h.lo y hy)⟩
theorem Ay.make (h : Ay N w0 w a L A) (m n : Int) (hd : Bool) : Calls Tryz.prog 99 #[.pointer (some ⟨a, 0, none⟩), .int .i64 m, .int .i64 n, .bool hd] w
    fun e w' => e = .returned (.tuple #[(A.makeR m n hd).now.val, .int .i64 (A.makeR m n hd).e]) ∧ Ay N w0 w' a L (A.makeR m n hd).A ∧ Keeps (fun y => L.foot A.many y) w w' :=
  (amake_any a L A m n hd w h.ar h.ok).mono fun _ _ ⟨h1, h2, h3⟩ => ⟨h1, h.op h2 h3 (h.ok.makeR _ _ _) (A.makeR_n _ _ _).2, h2⟩
theorem Ay.store (h : Ay N w0 w a L A) (m i f j : Int) : Calls Tryz.prog 103 #[.pointer (some ⟨a, 0, none⟩), .int .i64 m, .int .i64 i, .int .i64 f, .int .i64 j] w
    fun e w' => e = .returned (.tuple #[(A.storeR m i f j).was.val, (A.storeR m i f j).now.val, .int .i64 (A.storeR m i f j).e]) ∧ Ay N w0 w' a L (A.storeR m i f j).A ∧ Keeps (fun y => L.foot A.many y) w w' :=
  (astore_any a L A m i f j w h.ar h.ok).mono fun _ _ ⟨h1, h2, h3⟩ => ⟨h1, h.op h2 h3 (h.ok.storeR _ _ _ _) (A.storeR_n _ _ _ _).2, h2⟩
theorem Ay.put (h : Ay N w0 w a L A) (m i k : Int) : Calls Tryz.prog 106 #[.pointer (some ⟨a, 0, none⟩), .int .i64 m, .int .i64 i, .int .i64 k] w
    fun e w' => e = .returned (.tuple #[(A.putR m i k).was.val, (A.putR m i k).now.val, .int .i64 (A.putR m i k).e]) ∧ Ay N w0 w' a L (A.putR m i k).A ∧ Keeps (fun y => L.foot A.many y) w w' :=
  (aput_any a L A m i k w h.ar h.ok).mono fun _ _ ⟨h1, h2, h3⟩ => ⟨h1, h.op h2 h3 (h.ok.putR _ _ _) (A.putR_n _ _ _).2, h2⟩
theorem Ay.drop (h : Ay N w0 w a L A) (m i : Int) : Calls Tryz.prog 88 #[.pointer (some ⟨a, 0, none⟩), .int .i64 m, .int .i64 i] w
    fun e w' => e = .returned (.tuple #[(A.dropR m i).now.val, .int .i64 (A.dropR m i).e]) ∧ Ay N w0 w' a L (A.dropR m i).A ∧ Keeps (fun y => L.foot A.many y) w w' :=
  (adrop_any a L A m i w h.ar).mono fun _ _ ⟨h1, h2, h3⟩ => ⟨h1, h.op h2 h3 (h.ok.dropR _ _) (A.dropR_n _ _).2, h2⟩
theorem Ay.load (h : Ay N w0 w a L A) (m i f : Int) : Calls Tryz.prog 101 #[.pointer (some ⟨a, 0, none⟩), .int .i64 m, .int .i64 i, .int .i64 f] w
    fun e w' => e = .returned (.tuple #[(A.loadR m i f).now.val, .int .i64 (A.loadR m i f).e]) ∧ Ay N w0 w' a L (A.loadR m i f).A ∧ Keeps (fun y => L.foot A.many y) w w' :=
  (aload_any a L A m i f w h.ar h.ok).mono fun _ _ ⟨h1, h2, h3⟩ => ⟨h1, h.op h2 h3 (h.ok.loadR _ _ _) (A.loadR_n _ _ _).2, h2⟩
theorem Ay.get (h : Ay N w0 w a L A) (m k : Int) : Calls Tryz.prog 108 #[.pointer (some ⟨a, 0, none⟩), .int .i64 m, .int .i64 k] w
    fun e w' => e = .returned (.tuple #[(A.getR m k).now.val, .int .i64 (A.getR m k).e]) ∧ Ay N w0 w' a L (A.getR m k).A ∧ Keeps (fun y => L.foot A.many y) w w' :=
  (aget_any a L A m k w h.ar h.ok).mono fun _ _ ⟨h1, h2, h3⟩ => ⟨h1, h.op h2 h3 (h.ok.getR _ _) (A.getR_n _ _).2, h2⟩
theorem Ay.free (h : Ay N w0 w a L A) (r : Rf) : Calls Tryz.prog 110 #[.pointer (some ⟨a, 0, none⟩), .agg #[.int .i64 r.s, .int .u32 r.g]] w
    fun e w' => e = .returned (.int .i64 (A.freeR r).2) ∧ Ay N w0 w' a L (A.freeR r).1 ∧ Keeps (fun y => L.foot A.many y) w w' :=
  (afree_any a L A r w h.ar h.ok).mono fun _ _ ⟨h1, h2, h3⟩ => ⟨h1, h.op h2 h3 (h.ok.freeR _) (A.freeR_n _).2, h2⟩
theorem Ay.new (n k : Nat) (w : World) (n1 : 1 ≤ n) (n2 : n ≤ 256) (k1 : 1 ≤ k) (k4 : k ≤ 4) :
    Calls Tryz.prog 24 #[.int .i64 n, .int .i64 k, .int .u32 1] w fun e w' => ∃ a L, e = .returned (.tuple #[.pointer (some ⟨a, 0, none⟩), .int .i64 0]) ∧ Ay w.heap.size w w' a L (Ar.new n k 1) := by
  refine (anew_ok n k 1 w (by omega) (by omega) k1 k4 (by omega) (by omega)).mono ?_
  rintro e w' ⟨a, rfl, hk, L, h1, h2⟩
  rw [Int.toNat_natCast] at h1 h2
  refine ⟨a, L, rfl, h1, Ar.Ok.new n1 n2 k1 k4 (by omega) (by omega), fun y hy => ?_, hk.up⟩
  rcases hy with rfl | rfl | rfl | ⟨j, hj, rfl⟩
  · exact h2.b.1
  · exact h2.t.1
  · exact h2.g.1
  · exact (h2.ss j hj).1
def IntsB (w : World) (v : Value) (l : List Int) : Prop := ∃ b c cur, v = .slice (some ⟨b, 0, none⟩) l.length c ∧ w.heap[b]? = some (.cells cur 3) ∧ ∀ (j : Nat) (x : Int), l[j]? = some x → cur[j]? = some (.int .i64 x)
theorem IntsB.keeps {v : Value} {l : List Int} (h : IntsB w v l) (hk : Keeps (fun _ => False) w w') : IntsB w' v l := by
  obtain ⟨b, c, cur, h1, h2, h3⟩ := h
  exact ⟨b, c, cur, h1, block_keep h2 hk (fun h => h), h3⟩
/-! the example -/
end Go.Proofs.YtehmoikbeflkaaaGreat
