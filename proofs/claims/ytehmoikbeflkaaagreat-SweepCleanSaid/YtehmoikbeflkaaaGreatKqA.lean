/- slices.Equal of names. -/
import Derived.Test.YtehmoikbeflkaaaGreatMgM
import Derived.Test.YtehmoikbeflkaaaGreatMgC
import Derived.Test.YtehmoikbeflkaaaGreatCgA
import Derived.Maps.OwnOps
import Derived.DeepKeys4
import Derived.Test.YtehmoikbeflkaaaGreatMgU
import Derived.Maps.AppendAt
import Derived.Test.YtehmoikbeflkaaaGreatNgE
import Derived.Test.YtehmoikbeflkaaaGreatMgR
import Derived.Test.YtehmoikbeflkaaaGreatMgX
namespace Go.Proofs.YtehmoikbeflkaaaGreat
open Go.RowKit
set_option linter.unusedVariables false
set_option linter.unusedSimpArgs false

theorem Refs.cell {w : World} {a : Option Addr} {n c : Nat} {l : List Rf} (h : Refs w (.slice a n c) l) : n = l.length ∧ ∀ (j : Nat) (r : Rf), l[j]? = some r → ∃ g, a = some ⟨g, 0, none⟩ ∧ g < w.heap.size ∧ w.cell? ⟨g, j * 2, none⟩ = some (.int .i64 r.s) ∧ w.cell? ⟨g, j * 2 + 1, none⟩ = some (.int .u32 r.g) := by
  rcases h with ⟨e, rfl⟩ | ⟨g, cap, cur, e, hg, hc⟩
  · injection e with e1 e2 e3
    exact ⟨e2, fun j r hj => by cases hj⟩
  · injection e with e1 e2 e3
    exact ⟨e2, fun j r hj => ⟨g, e1, lt_block hg, cell_at hg (hc j r hj).1, cell_at hg (hc j r hj).2⟩⟩
theorem Refs.slice {w : World} {v : Value} {l : List Rf} (h : Refs w v l) : ∃ a c, v = .slice a l.length c := by
  rcases h with ⟨rfl, rfl⟩ | ⟨g, cap, cur, rfl, hg, hc⟩
  · exact ⟨_, _, rfl⟩
  · exact ⟨_, _, rfl⟩
theorem Rf.eq_iff {x y : Rf} : (x.s == y.s && x.g == y.g) = decide (x = y) := by
  obtain ⟨a, b⟩ := x; obtain ⟨c, d⟩ := y
  rw [Bool.eq_iff_iff]
  simp
set_option maxRecDepth 100000 in
theorem requal (v1 v2 : Value) (l1 l2 : List Rf) (w : World) (h1 : Refs w v1 l1) (h2 : Refs w v2 l2) (hb : l1.length ≤ 65536) :
    Calls Tryz.prog 22 #[v1, v2] w fun e w' => e = .returned (.bool (decide (l1 = l2))) ∧ Keeps (fun _ => False) w w' := by
  obtain ⟨a1, c1, rfl⟩ := h1.slice
  obtain ⟨a2, c2, rfl⟩ := h2.slice
  have H1 := hid (fun W (hk : Keeps (fun _ => False) w W) => (h1.keeps hk (fun _ _ h => h)).cell.2)
  have H2 := hid (fun W (hk : Keeps (fun _ => False) w W) => (h2.keeps hk (fun _ _ h => h)).cell.2)
  clear h1 h2
  by_cases hl : l1.length = l2.length
  · obtain ⟨n, hn⟩ : ∃ n, l1.length = n := ⟨_, rfl⟩
    have hn2 : l2.length = n := hl.symm.trans hn
    rw [hn, hn2]
    rw [hn] at hb
    clear hl
    go_enter Tryz.func22, Tryz.ntmps22
    go_wp2_with fail
    go_loopw [13] (fun ix wr => ∃ k : Nat, k ≤ n ∧ ix = .int .i64 k ∧ l1.take k = l2.take k ∧ Keeps (fun _ => False) w wr) (fun ix _ => n - (intOf ix).toNat)
    case atStart => exact ⟨0, Nat.zero_le _, rfl, rfl, Keeps.refl _ _⟩
    case round =>
      obtain ⟨k, hk, rfl, he, hkr⟩ := hrel
      have HKR := hid hkr; have HE := hid he
      by_cases hlt : k < n
      · obtain ⟨x, hx⟩ : ∃ x, l1[k]? = some x := ⟨_, List.getElem?_eq_getElem (by omega)⟩
        obtain ⟨y, hy⟩ : ∃ y, l2[k]? = some y := ⟨_, List.getElem?_eq_getElem (by omega)⟩
        obtain ⟨g1, rfl, b1, p0, p1⟩ := H1.out wr hkr k x hx
        obtain ⟨g2, rfl, b2, q0, q1⟩ := H2.out wr hkr k y hy
        have hlt' : (k : Int) < (n : Int) := by omega
        have hk0 : (0 : Int) ≤ k := by omega
        have HX := hid hx; have HY := hid hy
        have hneq := fun w => neq_ref w x.s x.g y.s y.g
        simp only [Rf.eq_iff] at hneq
        clear hkr he hx hy
        by_cases hxy : x = y
        · rw [decide_eq_true hxy] at hneq
          have HXY := hid hxy
          clear hxy
          go_wp2_with fail
          go_quiet (fail)
          go_wp2_with fail
          refine ⟨⟨k + 1, by omega, by go_num, ?_, (HKR.out.drewN _)⟩, by simp [intOf]; omega⟩
          rw [List.take_add_one, List.take_add_one, HE.out, HX.out, HY.out, HXY.out]
        · rw [decide_eq_false hxy] at hneq
          have hd : decide (l1 = l2) = false := decide_eq_false (fun h => hxy (by have h1 := HX.out; rw [h, HY.out] at h1; exact (Option.some.inj h1).symm))
          have HD := hid hd
          clear hxy hd
          go_wp2_with fail
          go_quiet (fail)
          go_wp2_with fail
          go_ret
          exact ⟨ret_bool HD.out.symm, HKR.out.drewN _⟩
      · have hlt' : ¬ (k : Int) < (n : Int) := by omega
        have hall : l1 = l2 := by
          rw [← List.take_of_length_le (l := l1) (i := k) (by omega), ← List.take_of_length_le (l := l2) (i := k) (by omega)]; exact he
        have HALL := hid hall
        clear hkr he hall
        go_wp2_with fail
        go_ret
        exact ⟨ret_bool (by simp [HALL.out]), HKR.out⟩
  · have hd : decide (l1 = l2) = false := decide_eq_false (fun h => hl (by rw [h]))
    have hl' : ((l1.length : Int) == l2.length) = false := by simpa using (by omega : ¬ (l1.length : Int) = l2.length)
    rw [hd]
    clear hl
    go_enter Tryz.func22, Tryz.ntmps22
    go_wp2_with fail
    go_ret
    exact ⟨rfl, Keeps.refl _ _⟩
end Go.Proofs.YtehmoikbeflkaaaGreat

/- Maps with names as keys. -/
namespace Go.Proofs.YtehmoikbeflkaaaGreat
open Go.RowKit
open Go.Maps (Keyed)

theorem ref_row : (33 : TypeId) < Tryz.prog.types.size := of_decide_eq_true (by kernel_rfl)
theorem ref_wide : (match Tryz.prog.underlying 33 with | some (.array _ _) | some (.struct _) => true | _ => false) = true := by rw [Tryz.underlying33]
set_option maxRecDepth 100000 in
theorem ref_law : Keyed Tryz.prog 33 := Keyed.of_law (deep_law_laid Tryz.laidOut (m := 2) (by omega) ref_row (by kernel_rfl) ref_wide)
theorem ref_cells : Tryz.prog.cellsOf 33 = 2 := by kernel_rfl
theorem ref_formed {c0 c1 : Value} : (Value.agg #[c0, c1]).formed Tryz.prog 33 = true := by simp [Value.formed, Tryz.underlying33, ref_cells]
theorem ref_keytype : Tryz.prog.keyType 33 = true := by kernel_rfl
theorem size_pos {P : Program} {k : TypeId} (h : k < P.types.size) : ∃ d, P.types.size = d + 1 := ⟨_, (Nat.sub_add_cancel (Nat.lt_of_le_of_lt (Nat.zero_le _) h)).symm⟩
theorem keyLits_int {P : Program} {t : TypeId} {q : IntKind} (h : P.underlying t = some (.int q)) (d : Nat) {n : Int} (hw : (Lit.int q n).wf = true) : P.keyLits (d + 1) t [.int q n] = some [.int q n] := by
  simp [Program.keyLits, h, hw]
theorem ref_key {s g : Int} (hs : (Lit.int .i64 s).wf = true) (hg : (Lit.int .u32 g).wf = true) : ∃ kl, keyOf Tryz.prog 33 (.agg #[.int .i64 s, .int .u32 g]) = some kl := by
  have h1 : Tryz.prog.cellsOf 3 = 1 := by kernel_rfl
  have h2 : Tryz.prog.cellsOf 31 = 1 := by kernel_rfl
  obtain ⟨d, hd⟩ : ∃ d, Tryz.prog.types.size = d + 1 := size_pos ref_row
  have k1 := fun d => keyLits_int (P := Tryz.prog) Tryz.underlying3 d hs
  have k2 := fun d => keyLits_int (P := Tryz.prog) Tryz.underlying31 d hg
  apply Option.isSome_iff_exists.1
  unfold keyOf
  rw [Tryz.underlying33]
  simp only [ref_keytype, ref_formed, Bool.and_self, if_true]
  rw [hd]
  unfold Program.keyLits
  rw [Tryz.underlying33]
  simp [Value.cells, ref_cells, h1, h2, k1, k2]
end Go.Proofs.YtehmoikbeflkaaaGreat

/- Package arena: Object of any name. -/
namespace Go.Proofs.YtehmoikbeflkaaaGreat
open Go.RowKit
set_option linter.unusedVariables false
set_option linter.unusedSimpArgs false

set_option maxRecDepth 100000 in
set_option maxHeartbeats 1000000 in
theorem aobject_of (a : Nat) (LA : ArL) (A : Ar) (r : Rf) (o : Ob) (k : Int) (w : World) (h : ArIn w a LA A)
    (hob : ∀ W, HpAt W LA.b LA.t A.H → Calls Tryz.prog 126 #[.pointer (some ⟨LA.b, 0, none⟩), .agg #[.int .i64 r.s, .int .u32 r.g]] W fun e w' => e = .returned (.tuple #[.agg o.arr, .int .i64 k]) ∧ Keeps (fun _ => False) W w') :
    Calls Tryz.prog 158 #[.pointer (some ⟨a, 0, none⟩), .agg #[.int .i64 r.s, .int .u32 r.g]] w fun e w' => e = .returned (.tuple #[.agg o.arr, .int .i64 k]) ∧ Keeps (fun _ => False) w w' := by
  have HF := hid (fun W (hk : Keeps (fun y => w.heap.size ≤ y) w W) => And.intro ((h.keepsF hk (fun _ h => h)).c0) (And.intro (cells1 (h.keepsF hk (fun _ h => h)).obj).1 (h.keepsF hk (fun _ h => h)).heap))
  have HOB := hid hob
  clear h hob
  have q0 := alloc_old (o := .cells (Ob.new 0 false).arr 136) (alloc_new (w := w) (o := .cells #[.int .i64 r.s, .int .u32 r.g] 33))
  have q1 := alloc_new' (w := w.alloc (.cells #[.int .i64 r.s, .int .u32 r.g] 33)) (n := w.heap.size + 1) (o := .cells (Ob.new 0 false).arr 136) (by simp)
  obtain ⟨w0, hw0⟩ : ∃ w0, (w.alloc (.cells #[.int .i64 r.s, .int .u32 r.g] 33)).alloc (.cells (Ob.new 0 false).arr 136) = w0 := ⟨_, rfl⟩
  have k0 : Keeps (fun _ => False) w w0 := by rw [← hw0]; exact ((Keeps.refl _ _).alloc _).alloc _
  rw [hw0] at q0 q1
  have HQ0 := hid q0; have HQ1 := hid q1; have HK0 := hid (show Keeps (fun y => w.heap.size ≤ y) w w0 from k0.up)
  have HFF := hid (fun W (hk : Keeps (fun y => y = w.heap.size + 1) w0 W) => show W.cell? ⟨a, 0, none⟩ = some (.pointer (some ⟨LA.o, 0, none⟩)) ∧ W.cell? ⟨LA.o, 0, none⟩ = some (.pointer (some ⟨LA.b, 0, none⟩)) ∧ W.cell? ⟨w.heap.size, 0, none⟩ = some (.int .i64 r.s) ∧ W.cell? ⟨w.heap.size, 1, none⟩ = some (.int .u32 r.g) from by
    obtain ⟨g1, g2, _⟩ := HF.out W (HK0.out.trans (hk.mono (fun y _ h => by omega)))
    obtain ⟨g3, g4, _⟩ := cells2 (block_keep HQ0.out hk (by omega))
    exact ⟨g1, g2, g3, g4⟩)
  obtain ⟨c0, c1, _⟩ := HF.out w0 HK0.out
  obtain ⟨e0, e1, _, _⟩ := cells2 q0
  clear k0 q0 q1
  simp only [Ob.arr, Ob.new, Rf.no] at hw0
  go_enter Tryz.func158, Tryz.ntmps158
  go_wp2_with fail
  clear hw0
  refine ((avalid a LA.o _ c0)).mono ?_
  rintro e w' ⟨rfl, h'⟩
  obtain rfl := h'.symm
  go_wp2_with fail
  go_region_held3 (fun W => W.cell? ⟨a, 0, none⟩ = some (.pointer (some ⟨LA.o, 0, none⟩)) ∧ W.cell? ⟨LA.o, 0, none⟩ = some (.pointer (some ⟨LA.b, 0, none⟩)) ∧ W.cell? ⟨w.heap.size, 0, none⟩ = some (.int .i64 r.s) ∧ W.cell? ⟨w.heap.size, 1, none⟩ = some (.int .u32 r.g))
    ((refine HFF.out _ ?_; (repeat (first | with_reducible exact Keeps.refl _ _ | with_reducible refine Keeps.alloc ?_ _ | with_reducible refine Keeps.drew ?_ | with_reducible refine Keeps.setCell ?_ (.inl ?_) _ | with_reducible refine Keeps.trans ?_ (Keeps.up (by with_reducible assumption)))) <;> rfl))
    (first | (go_at_call 126; refine (HOB.out _ ((HF.out _ HK0.out.drew).2.2)).mono ?_; rintro e w4 ⟨rfl, hk4⟩; have hk5 := (Keeps.drew (Keeps.refl (fun _ => False) w0)).trans hk4; have q5 := block_keep HQ1.out hk5 (fun h => h); obtain ⟨d0, d1, d2, d3, d4, d5, d6, d7, d8, d9, df, dl⟩ := cells10 q5; have f0 := df 0; have f1 := df 1; have f2 := df 2; have f3 := df 3; have f4 := df 4; have f5 := df 5; have f6 := df 6; have f7 := df 7; have f8 := df 8; have f9 := df 9; simp only [Ob.arr]))
  all_goals
    go_wp2_with fail
    refine bodyPost_ret_by (v := .tuple #[.agg o.arr, .int .i64 k]) (by simp [results, Tryz.results158, go_sem, Ob.arr, *]) rfl ⟨rfl, ?_⟩
    refine Keeps.fresh ?_
    with_reducible exact keeps10_0 (HK0.out.trans hk5.up) (b := w.heap.size + 1) (.inl (by omega)) _ _ _ _ _ _ _ _ _ _
theorem aobject_any (a : Nat) (LA : ArL) (A : Ar) (r : Rf) (w : World) (h : ArIn w a LA A) : ∃ (o : Ob) (k : Int), ((k = 0 ∧ ckV A.H.T r.s r.g = 0 ∧ o = A.H.ob r.s.toNat) ∨ ((k == 0) = false ∧ ckV A.H.T r.s r.g = k ∧ o = Ob.new 0 false)) ∧
    Calls Tryz.prog 158 #[.pointer (some ⟨a, 0, none⟩), .agg #[.int .i64 r.s, .int .u32 r.g]] w fun e w' => e = .returned (.tuple #[.agg o.arr, .int .i64 k]) ∧ Keeps (fun _ => False) w w' := by
  by_cases hc : ckV A.H.T r.s r.g = 0
  · refine ⟨_, 0, .inl ⟨rfl, hc, rfl⟩, aobject_of a LA A r _ 0 w h (fun W hW => ?_)⟩
    obtain ⟨i, e1, e2, e3, e4⟩ := ckV_ok hc
    rw [show r.s.toNat = i by omega, e1]
    rw [e1] at hc
    exact hobject_ok LA.b LA.t A.H i r.g W hW hc
  · exact ⟨_, _, .inr ⟨by simpa using hc, rfl, rfl⟩, aobject_of a LA A r _ _ w h (fun W hW => hobject_bad LA.b LA.t A.H r.s r.g W hW hc)⟩
end Go.Proofs.YtehmoikbeflkaaaGreat

/- append of names. -/
namespace Go.Proofs.YtehmoikbeflkaaaGreat
open Go.RowKit

theorem run_append_refs (ty : TypeId) (base : Nat) (v u : Value) (l m : List Rf) (w : World) (hv : Row w base v l) (hu : Refs w u m) (h1 : l.length + m.length ≤ 1000000) (hb : base ≤ w.heap.size) :
    ∃ v' w', (Builtin.append_ #[28, 28] ty #[v, u]).run Tryz.prog w = .ok v' w' ∧ Row w' base v' (l ++ m) ∧ Keeps (fun k => v.ownBlock = some k) w w' ∧ (v'.ownBlock = v.ownBlock ∨ v'.ownBlock = some w.heap.size) := by
  obtain ⟨ri, hi1, hi2, hi3, hi4⟩ := ref_info
  rcases hu with ⟨rfl, rfl⟩ | ⟨g, cap, cur, rfl, hg, hc⟩
  · refine ⟨v, w, ?_, by simpa using hv, Keeps.refl _ _, .inl rfl⟩
    rcases hv.2 with ⟨rfl, _⟩ | ⟨g, c, cur, rfl, _, _, hn, _⟩
    · simp [Builtin.append_, run_underlying Tryz.underlying28, sizeOf, typeInfo, hi1, Builtin.lenOf, Builtin.firstCells]
    · simp [Builtin.append_, run_underlying Tryz.underlying28, sizeOf, typeInfo, hi1, Builtin.lenOf, Builtin.firstCells, hn, storeCells]
  · obtain ⟨v', w', r1, r2, r3, _, r5⟩ := run_append_own_at (P := Tryz.prog) w base 28 ty 33 ri (.agg #[.int .i64 0, .int .u32 0]) 2 16 Tryz.underlying28 hi1 hi2 hi3 hi4 rfl (by decide) v l.length (l.flatMap encR) hv ⟨g, 0, none⟩ m.length cap (m.flatMap encR) (encR_len m)
      (fun j x hj => by
        have hjl : j < m.length * 2 := by rw [← encR_len]; exact (List.getElem?_eq_some_iff.1 hj).1
        obtain ⟨r, hr⟩ : ∃ r, m[j / 2]? = some r := ⟨_, List.getElem?_eq_getElem (by omega)⟩
        obtain ⟨a, b⟩ := hc _ r hr
        obtain ⟨a', b'⟩ := encR_at hr
        have e0 : (⟨g, 0, none⟩ : Addr).add j = ⟨g, j, none⟩ := by unfold Addr.add; split <;> simp_all
        rw [e0, cell_block hg]
        by_cases e : j % 2 = 0
        · have e2 : j = j / 2 * 2 := by omega
          rw [e2] at hj ⊢
          rw [a]; rw [a'] at hj; exact hj
        · have e2 : j = j / 2 * 2 + 1 := by omega
          rw [e2] at hj ⊢
          rw [b]; rw [b'] at hj; exact hj)
      (fun u hu => encR_one hu) (by simp [maxLen]; omega) (by omega) hb
    refine ⟨v', w', r1, ?_, (grown_keeps r3).mono (fun k _ h => h), r5⟩
    unfold Row
    rw [List.length_append, List.flatMap_append]
    exact r2
theorem wpList_append_refs {ops : Array Oper} {rest : List Oper} {o : Oper} {a : Act} {Q : Exit → Act → World → Prop} (w : World) (hgd : o.guard = none) (s x : Operand)
    (ho : o.op = .call { callee := .builtin .append, args := #[s, x], argTypes := #[28, 28] })
    (base : Nat) (v u : Value) (l m : List Rf) (hs : a.eval s = v) (hx : a.eval x = u) (hv : Row w base v l) (hu : Refs w u m) (h1 : l.length + m.length ≤ 1000000) (hb : base ≤ w.heap.size)
    (h : ∀ v' w', Row w' base v' (l ++ m) → Keeps (fun k => v.ownBlock = some k) w w' → (v'.ownBlock = v.ownBlock ∨ v'.ownBlock = some w.heap.size) → wpList Tryz.prog ops Q rest (a.put o.dst v') w') :
    wpList Tryz.prog ops Q (o :: rest) a w := by
  refine wpList_plain hgd fun K hK => ?_
  obtain ⟨v', w', hr, h2, h3, h4⟩ := run_append_refs o.type base v u l m w hv hu h1 hb
  unfold Oper.wp execOp
  simp only [ho, resolve, invoke, builtin, Sem.run_bind, Sem.run_pure, Result.andThen_ok, List.map_toArray, List.map_cons, List.map_nil, hs, hx, hr]
  exact hK _ _ (h v' w' h2 h3 h4)
end Go.Proofs.YtehmoikbeflkaaaGreat

/- estraylaw25.SweepKeeps: plain laws of sweeping. -/
namespace Go.Proofs.YtehmoikbeflkaaaGreat
set_option linter.unusedVariables false

theorem Ar.storeR_T (A : Ar) (m i f j : Int) : (A.storeR m i f j).A.H.T = A.H.T := by
  unfold Ar.storeR
  split
  · rfl
  split
  · rfl
  split
  · rfl
  · exact Hp.storeR_T _ _ _ _
theorem Ar.dropR_T (A : Ar) (m i : Int) : (A.dropR m i).A.H.T = A.H.T := by
  unfold Ar.dropR
  split
  · rfl
  split <;> rfl
theorem Ar.putR_T (A : Ar) (m i k : Int) : (A.putR m i k).A.H.T = A.H.T := by
  unfold Ar.putR
  split
  · rfl
  split <;> rfl
theorem Ar.pushR_T (A : Ar) (m : Nat) (v : Rf) : (A.pushR m v).A.H.T = A.H.T := by
  unfold Ar.pushR
  split <;> rfl
theorem Ar.getR_T (A : Ar) (m k : Int) : (A.getR m k).A.H.T = A.H.T := by
  unfold Ar.getR
  split
  · rfl
  split
  · rfl
  split
  · rfl
  · exact Ar.pushR_T _ _ _
theorem Ar.loadR_T (A : Ar) (m i f : Int) : (A.loadR m i f).A.H.T = A.H.T := by
  unfold Ar.loadR
  split
  · rfl
  split
  · rfl
  split
  · rfl
  split
  · rfl
  · exact Ar.pushR_T _ _ _
theorem Mk.wroteR_off {M : Mk} (h : M.K.ph = 5) (i : Int) (r q : Rf) : (M.wroteR i r q).1 = M := by
  unfold Mk.wroteR
  split
  · rfl
  split
  · rfl
  split
  · rename_i hb
    unfold Ck.bar at hb
    rw [if_neg (by omega)] at hb
    simp at hb
    omega
  · rfl
structure Tame (s t : Sys) : Prop where
  tb : ∀ j, t.A.H.T.gn j = s.A.H.T.gn j ∧ (t.A.H.T.st j = s.A.H.T.st j ∨ (s.A.H.T.st j = 0 ∧ t.A.H.T.st j = 1 ∧ t.M.P.c j ≠ 0))
  c : ∀ j, t.M.P.c j = s.M.P.c j ∨ (s.A.H.T.st j = 0 ∧ t.M.P.c j = 2)
theorem Tame.of {s t : Sys} (h1 : t.A.H.T = s.A.H.T) (h2 : t.M = s.M) : Tame s t :=
  ⟨fun j => by rw [h1]; exact ⟨rfl, .inl rfl⟩, fun j => by rw [h2]; exact .inl rfl⟩
theorem Tame.told {s : Sys} {R : Res} (h1 : R.A.H.T = s.A.H.T) (hp : s.M.K.ph = 5) (k : Int) : Tame s (Sys.told R s k) := by
  refine Tame.of h1 ?_
  unfold Sys.told
  dsimp only
  split
  · exact Mk.wroteR_off hp _ _ _
  · rfl
theorem tame_make {s : Sys} (hok : s.Ok) (hp : s.M.K.ph = 5) (m n : Int) (hd : Bool) : Tame s ⟨(s.A.makeR m n hd).A, if (s.A.makeR m n hd).e = 0 then (s.M.madeR (s.A.makeR m n hd).now).1 else s.M⟩ := by
  have same : ∀ e : Int, e ≠ 0 → Tame s ⟨s.A, if e = 0 then (s.M.madeR Rf.no).1 else s.M⟩ := fun e he => by
    rw [if_neg he]; exact Tame.of rfl rfl
  unfold Ar.makeR
  split
  · exact same 3 (by decide)
  split
  · exact same 2 (by decide)
  split
  · exact same 4 (by decide)
  split
  · exact same 4 (by decide)
  · rename_i i g r hx
    obtain ⟨h1, h2, h3⟩ := Tb.inn_mem (T := s.A.H.T) (s := 0) (k := s.A.H.T.n) (i := i) (g := g) (by rw [hx]; simp)
    have hg := (hok.a.tb i h3).1
    have hM : (s.M.madeR ⟨i, g⟩).1 = { s.M with P := s.M.P.born i } := by
      unfold Mk.madeR
      rw [if_neg (by have := hok.n; dsimp only; omega), if_pos (by omega)]
      show ({ s.M with P := s.M.P.born (i : Int).toNat } : Mk) = _
      rw [Int.toNat_natCast]
    rw [if_pos rfl]
    show Tame s ⟨s.A.made m.toNat i g (Ob.new n hd), (s.M.madeR ⟨i, g⟩).1⟩
    rw [hM]
    have hb : ∀ j, (s.M.P.born i).c j = s.M.P.c j ∨ (j = i ∧ (s.M.P.born i).c j = 2) := fun j => by
      unfold Pt.born
      split
      · by_cases e : j = i
        · subst e; exact .inr ⟨rfl, updf_same _ _ _⟩
        · exact .inl (updf_ne _ _ e)
      · exact .inl rfl
    have hbi : (s.M.P.born i).c i ≠ 0 := by
      unfold Pt.born
      split
      · show updf s.M.P.c i 2 i ≠ 0; rw [updf_same]; decide
      · rename_i h0; exact h0
    refine ⟨fun j => ⟨?_, ?_⟩, fun j => ?_⟩
    · show upd s.A.H.T.gn i g j = _
      unfold upd
      split
      · rename_i e; rw [e, h2]
      · rfl
    · show upd s.A.H.T.st i 1 j = _ ∨ _ ∧ upd s.A.H.T.st i 1 j = 1 ∧ (s.M.P.born i).c j ≠ 0
      unfold upd
      split
      · rename_i e; right; rw [e]; exact ⟨h1, rfl, hbi⟩
      · exact .inl rfl
    · rcases hb j with h | ⟨e, h⟩
      · exact .inl h
      · right; rw [e]; exact ⟨h1, by rw [e] at h; exact h⟩
theorem Mv.tame (x : Mv) {s : Sys} (hok : s.Ok) (hp : s.M.K.ph = 5) (ms : Nat) : Tame s (x.doR s ms) := by
  unfold Mv.doR
  split
  · exact tame_make hok hp _ _ _
  · exact tame_make hok hp _ _ _
  · exact Tame.told (Ar.storeR_T _ _ _ _ _) hp _
  · exact Tame.told (Ar.storeR_T _ _ _ _ _) hp _
  · exact Tame.of (Ar.dropR_T _ _ _) rfl
  · exact Tame.told (Ar.putR_T _ _ _ _) hp _
  · exact Tame.of (Ar.getR_T _ _ _) rfl
  · exact Tame.of (Ar.loadR_T _ _ _ _) rfl
def Sys.un (s : Sys) (k : Nat) : List Rf := ((s.A.H.T.inn 1 k).map rfOf).filter (fun r => s.M.P.c r.s.toNat == 0)
def Sys.wh (s : Sys) (j : Nat) : Prop := s.A.H.T.st j = 1 ∧ s.M.P.c j = 0
theorem Sys.un_yes {s : Sys} {k : Nat} (h : s.wh k) : s.un (k + 1) = s.un k ++ [⟨k, s.A.H.T.gn k⟩] := by
  unfold Sys.un
  rw [Tb.inn_yes h.1, List.map_append, List.filter_append]
  congr 1
  have : (rfOf (k, s.A.H.T.gn k)).s.toNat = k := Int.toNat_natCast k
  simp only [List.map_cons, List.map_nil, List.filter_cons, List.filter_nil, this, h.2]
  rfl
theorem Sys.un_no {s : Sys} {k : Nat} (h : ¬ s.wh k) : s.un (k + 1) = s.un k := by
  unfold Sys.un
  by_cases h1 : s.A.H.T.st k = 1
  · have h2 : s.M.P.c k ≠ 0 := fun h2 => h ⟨h1, h2⟩
    rw [Tb.inn_yes h1, List.map_append, List.filter_append]
    have : (rfOf (k, s.A.H.T.gn k)).s.toNat = k := Int.toNat_natCast k
    simp only [List.map_cons, List.map_nil, List.filter_cons, List.filter_nil, this]
    rw [show (s.M.P.c k == 0) = false by simpa using h2]
    simp
  · rw [Tb.inn_no h1]
theorem Sys.un_mem {s : Sys} {k : Nat} {r : Rf} (h : r ∈ s.un k) : ∃ j : Nat, j < k ∧ s.wh j ∧ r = ⟨j, s.A.H.T.gn j⟩ := by
  unfold Sys.un at h
  obtain ⟨h1, h2⟩ := List.mem_filter.1 h
  obtain ⟨⟨j, g⟩, h3, rfl⟩ := List.mem_map.1 h1
  obtain ⟨h4, h5, h6⟩ := Tb.inn_mem h3
  have : (rfOf (j, g)).s.toNat = j := Int.toNat_natCast j
  rw [this] at h2
  exact ⟨j, h6, ⟨h4, by simpa using h2⟩, by show (⟨j, g⟩ : Rf) = _; rw [h5]⟩
structure Kp (s0 : Sys) (n i : Nat) (s : Sys) (S : Sw) (freed : List Rf) : Prop where
  ok : s.Ok
  safe : Safe s
  ph : s.M.K.ph = 5
  nn : s.M.P.n = n
  S : S = ⟨n, i, freed.length⟩
  fr : freed = s0.un i
  yet : ∀ j, i ≤ j → s0.wh j → s.wh j ∧ s.A.H.T.gn j = s0.A.H.T.gn j
  all : ∀ j, i ≤ j → s.wh j → s0.wh j
  gone : ∀ j, j < i → s0.wh j → s.A.H.T.gn j ≠ s0.A.H.T.gn j ∨ s.A.H.T.st j = 2
theorem Kp.zero {s : Sys} {n : Nat} (h1 : s.Ok) (h2 : Safe s) (h3 : s.M.K.ph = 5) (h4 : s.M.P.n = n) : Kp s n 0 s ⟨n, 0, 0⟩ [] :=
  ⟨h1, h2, h3, h4, rfl, rfl, fun _ _ h => ⟨h, rfl⟩, fun _ _ h => h, fun _ h => absurd h (Nat.not_lt_zero _)⟩
theorem Kp.chk {s0 s : Sys} {n i : Nat} {S : Sw} {fr : List Rf} (h : Kp s0 n i s S fr) (hi : i < n) : S.chk s.A s.M = 0 := by
  have := h.ok.n; have := h.nn
  rw [h.S]
  unfold Sw.chk
  rw [if_neg (by dsimp only; omega), if_neg (by have := h.ph; dsimp only; omega)]
theorem Kp.move {s0 s : Sys} {n i : Nat} {S : Sw} {fr : List Rf} (h : Kp s0 n i s S fr) (x : Mv) {ms : Nat} (h0 : 0 < ms) (hms : ms ≤ s.A.many) : Kp s0 n i (x.doR s ms) S fr := by
  have t := x.tame h.ok h.ph ms
  have nx := Mv.next x h.ok ms
  refine ⟨nx.ok, x.safe h.ok h.safe h0 hms, by rw [nx.K]; exact h.ph, nx.n.trans h.nn, h.S, h.fr, fun j hj hw => ?_, fun j hj hw => ?_, fun j hj hw => ?_⟩
  · obtain ⟨⟨h1, h2⟩, h3⟩ := h.yet j hj hw
    obtain ⟨t1, t2⟩ := t.tb j
    refine ⟨⟨?_, ?_⟩, t1.trans h3⟩
    · rcases t2 with t2 | t2
      · rw [t2]; exact h1
      · exact t2.2.1
    · rcases t.c j with t3 | t3
      · rw [t3]; exact h2
      · have := t3.1.symm.trans h1; cases this
  · obtain ⟨h1, h2⟩ := hw
    obtain ⟨t1, t2⟩ := t.tb j
    refine h.all j hj ⟨?_, ?_⟩
    · rcases t2 with t2 | t2
      · rw [← t2]; exact h1
      · exact absurd h2 t2.2.2
    · rcases t.c j with t3 | t3
      · rw [← t3]; exact h2
      · have := t3.2.symm.trans h2; cases this
  · obtain ⟨t1, t2⟩ := t.tb j
    rcases h.gone j hj hw with h1 | h1
    · left; rw [t1]; exact h1
    · right
      rcases t2 with t2 | t2
      · rw [t2]; exact h1
      · have := t2.1.symm.trans h1; cases this
theorem tk_give {T : Tb} {i : Nat} (hi : T.st i = 1) : (T.give i).tk = T.tk.filter (fun r => !decide (r = ⟨i, T.gn i⟩)) := by
  have hn : (T.give i).n = T.n := Tb.give_n T i
  have hst : ∀ j, (T.give i).st j = if j = i then (if T.gn i < 4294967295 then 0 else 2) else T.st j := fun j => by
    unfold Tb.give
    split
    · rfl
    · rfl
  have hgn : ∀ j, j ≠ i → (T.give i).gn j = T.gn j := fun j hj => by
    unfold Tb.give
    split
    · exact if_neg hj
    · exact if_neg hj
  unfold Tb.tk
  rw [hn]
  induction T.n with
  | zero => rfl
  | succ k ih =>
    by_cases e : k = i
    · subst e
      rw [Tb.inn_no (T := T.give k) (by rw [hst, if_pos rfl]; split <;> decide), Tb.inn_yes hi, ih, List.map_append, List.filter_append]
      simp [rfOf]
    · by_cases h1 : T.st k = 1
      · rw [Tb.inn_yes (T := T.give i) (by rw [hst, if_neg e]; exact h1), Tb.inn_yes h1, List.map_append, List.map_append, List.filter_append, ih, hgn k e]
        congr 1
        have : ¬ ((k : Int) = i) := by omega
        simp [rfOf, this]
      · rw [Tb.inn_no (T := T.give i) (by rw [hst, if_neg e]; exact h1), Tb.inn_no h1, ih]
theorem Kp.step {s0 s : Sys} {n i : Nat} {S : Sw} {fr : List Rf} (h : Kp s0 n i s S fr) (hi : i < n) :
    Kp s0 n (i + 1) (S.stepR s).s (S.stepR s).S (if (S.stepR s).is = true then fr ++ [(S.stepR s).r] else fr) ∧ ((S.stepR s).is = true → (S.stepR s).r.nz = true) ∧ ((S.stepR s).is = false → (S.stepR s).r = .no)
      ∧ (S.stepR s).s.A.H.T.tk = (if (S.stepR s).is = true then s.A.H.T.tk.filter (fun r => !decide (r = (S.stepR s).r)) else s.A.H.T.tk) ∧ (S.stepR s).S.n = fr.length + (if (S.stepR s).is = true then 1 else 0) ∧ (S.stepR s).s.A.many = s.A.many ∧ (S.stepR s).s.M.K = s.M.K ∧ ((S.stepR s).is = true → (S.stepR s).r ∈ s.A.H.T.tk) := by
  have hnn := h.nn
  have hin : i < s.A.H.T.n := by rw [h.ok.n]; omega
  have hS := h.S
  by_cases hw : s.wh i
  · obtain ⟨w1, w2⟩ := id hw
    have e : S.stepR s = ⟨⟨n, i + 1, fr.length + 1⟩, s.free i, ⟨i, s.A.H.T.gn i⟩, true⟩ := by
      rw [hS]; unfold Sw.stepR; rw [if_neg (by rintro (h | h); exact h w2; exact h w1)]
    rw [e]
    have hck : ckV s.A.H.T (i : Int) (s.A.H.T.gn i) = 0 := ckV_tk hin w1
    have hfr : (s.free i).A.H = s.A.H.free i := by
      show (s.A.H.freeR ⟨i, s.A.H.T.gn i⟩).1 = _
      unfold Hp.freeR
      rw [if_neg (by show ¬ ckV s.A.H.T (i : Int) (s.A.H.T.gn i) ≠ 0; rw [hck]; exact fun h => h rfl)]
      show s.A.H.free (i : Int).toNat = _
      rw [Int.toNat_natCast]
    have hst : ∀ j, (s.free i).A.H.T.st j = if j = i then (if s.A.H.T.gn i < 4294967295 then 0 else 2) else s.A.H.T.st j := fun j => by
      rw [hfr]; show (s.A.H.T.give i).st j = _
      unfold Tb.give
      split <;> rfl
    have hgn : ∀ j, (s.free i).A.H.T.gn j = if j = i then (if s.A.H.T.gn i < 4294967295 then s.A.H.T.gn i + 1 else s.A.H.T.gn i) else s.A.H.T.gn j := fun j => by
      rw [hfr]; show (s.A.H.T.give i).gn j = _
      unfold Tb.give
      split <;> rfl
    have hM := Sys.free_M (s := s) (i := i) (by omega)
    have hMe : (s.free i).M = s.M := by
      rw [hM]
      have : s.M.P.put i 0 = s.M.P := by
        unfold Pt.put
        have : updf s.M.P.c i 0 = s.M.P.c := by
          funext j
          by_cases ej : j = i
          · subst ej; rw [updf_same, w2]
          · rw [updf_ne _ _ ej]
        rw [this]
      rw [this]
    have w0 := h.all i (Nat.le_refl _) hw
    obtain ⟨_, w0g⟩ := h.yet i (Nat.le_refl _) w0
    have hsf : Safe (s.free i) := by
      have := (safe_free (A' := (s.free i).A) h.safe (by have := h.ph; omega) w2 (Ar.freeR_n _ _).2 rfl rfl (fun j hj => by rw [hfr]; exact updf_ne _ _ hj) (by rw [hfr]; exact Tb.give_n _ _) (fun j hj => by rw [hst, if_neg hj]) (fun j hj => by rw [hgn, if_neg hj]) (by rw [hst, if_pos rfl]; split <;> decide)).1
      have e2 : s.free i = ⟨(s.free i).A, s.M⟩ := by
        conv => lhs; rw [show s.free i = ⟨(s.free i).A, (s.free i).M⟩ from rfl, hMe]
      rw [e2]; exact this
    refine ⟨⟨h.ok.free (by omega) w2, hsf, by rw [hMe]; exact h.ph, by rw [hMe]; exact hnn, by simp, ?_, fun j hj hw0 => ?_, fun j hj hwj => ?_, fun j hj hw0 => ?_⟩, fun _ => ?_, fun hx => by simp at hx, ?_, by simp, (Ar.freeR_n _ _).2, by rw [hMe], fun _ => tk_mem hin w1⟩
    · rw [if_pos rfl, Sys.un_yes w0, ← h.fr, w0g]
    · obtain ⟨⟨y1, y2⟩, y3⟩ := h.yet j (by omega) hw0
      refine ⟨⟨?_, by rw [hMe]; exact y2⟩, ?_⟩
      · rw [hst, if_neg (by omega)]; exact y1
      · rw [hgn, if_neg (by omega)]; exact y3
    · obtain ⟨y1, y2⟩ := hwj
      rw [hst, if_neg (by omega)] at y1
      rw [hMe] at y2
      exact h.all j (by omega) ⟨y1, y2⟩
    · by_cases ej : j = i
      · subst ej
        rw [hgn, hst, if_pos rfl, if_pos rfl]
        split
        · left; omega
        · exact .inr rfl
      · rw [hgn, hst, if_neg ej, if_neg ej]
        exact h.gone j (by omega) hw0
    · simp only [Rf.nz, Bool.not_eq_true', Bool.and_eq_false_iff, beq_eq_false_iff_ne]
      right
      have := (h.ok.a.tb i hin).1
      omega
    · rw [if_pos rfl, hfr]
      exact tk_give w1
  · have e : S.stepR s = ⟨⟨n, i + 1, fr.length⟩, s, .no, false⟩ := by
      rw [hS]; unfold Sw.stepR
      rw [if_pos (by
        by_cases h1 : s.A.H.T.st i = 1
        · exact .inl (fun h2 => hw ⟨h1, h2⟩)
        · exact .inr h1)]
    rw [e]
    have w0 : ¬ s0.wh i := fun h0 => hw (h.yet i (Nat.le_refl _) h0).1
    refine ⟨⟨h.ok, h.safe, h.ph, hnn, rfl, ?_, fun j hj => h.yet j (by omega), fun j hj => h.all j (by omega), fun j hj hw0 => ?_⟩, fun hx => by simp at hx, fun _ => rfl, rfl, rfl, rfl, rfl, fun hx => by simp at hx⟩
    · rw [if_neg (fun h => by cases h), Sys.un_no w0]; exact h.fr
    · have : j ≠ i := fun e => w0 (e ▸ hw0)
      exact h.gone j (by omega) hw0
theorem Kp.done {s0 s : Sys} {n : Nat} {S : Sw} {fr : List Rf} (h : Kp s0 n n s S fr) {r : Rf} (hr : r ∈ s.A.H.T.tk) : r ∉ s0.un n := by
  intro hu
  obtain ⟨j, h1, h2, rfl⟩ := Sys.un_mem hu
  obtain ⟨i, e1, e2, e3, e4⟩ := tk_of hr
  dsimp only at e1 e4
  have : j = i := by omega
  subst this
  rcases h.gone j h1 h2 with h3 | h3
  · exact h3 e4
  · rw [e3] at h3; cases h3
end Go.Proofs.YtehmoikbeflkaaaGreat

/- estraylaw25: there, reached. -/
namespace Go.Proofs.YtehmoikbeflkaaaGreat
open Go.RowKit
set_option linter.unusedVariables false
set_option linter.unusedSimpArgs false

def NMap (w : World) (b n : Nat) : Prop := ∃ D, w.ownsMap (H := Unit) Tryz.prog 33 (plainElem Tryz.prog 3) b n D
theorem NMap.keeps {w w' : World} {b n : Nat} {S : Nat → Prop} (h : NMap w b n) (hk : Keeps S w w') (hS : ¬ S b) : NMap w' b n := by
  obtain ⟨D, es, clock, h1, h2⟩ := h
  exact ⟨D, es, clock, block_keep h1 hk hS, h2⟩
theorem NMap.made (w : World) : NMap (w.alloc (.map #[] 0)) w.heap.size 0 := ⟨_, World.ownsMap_made _ _ _ _⟩
def Gath (A : Ar) (l : List Rf) : Prop := ∀ r ∈ l, Rch A r
theorem Gath.append {A : Ar} {l m : List Rf} (h : Gath A l) (k : Gath A m) : Gath A (l ++ m) := by
  intro r hr
  rcases List.mem_append.1 hr with hr | hr
  · exact h r hr
  · exact k r hr
theorem gath_gl (A : Ar) : Gath A A.glL := by
  intro r hr
  obtain ⟨h1, h2⟩ := List.mem_filter.1 hr
  obtain ⟨i, hi, rfl⟩ := List.mem_map.1 h1
  exact .var (List.mem_range.1 hi) h2
theorem gath_rt (A : Ar) {m : Nat} (hm : m < A.many) : Gath A (A.rt m).l := by
  intro r hr
  obtain ⟨i, hi, rfl⟩ := List.mem_map.1 hr
  exact .root hm (List.mem_range.1 hi)
end Go.Proofs.YtehmoikbeflkaaaGreat

/- estraylaw25: reached. -/
namespace Go.Proofs.YtehmoikbeflkaaaGreat
open Go.RowKit
set_option linter.unusedVariables false
set_option linter.unusedSimpArgs false

theorem idx4 (o : Ob) {j : Nat} (hj : j < 4) (w : World) : Sem.run Tryz.prog (Instr.index 134 (.agg #[.int .i64 o.f0.s, .int .u32 o.f0.g, .int .i64 o.f1.s, .int .u32 o.f1.g, .int .i64 o.f2.s, .int .u32 o.f2.g, .int .i64 o.f3.s, .int .u32 o.f3.g]) (.int .i64 j)) w = .ok (.agg #[.int .i64 (o.fs j).s, .int .u32 (o.fs j).g]) w := by
  match j, hj with
  | 0, _ => show _ = _; kernel_rfl
  | 1, _ => show _ = _; kernel_rfl
  | 2, _ => show _ = _; kernel_rfl
  | 3, _ => show _ = _; kernel_rfl
theorem own_map {w : World} {b n base : Nat} {v : Value} {l : List Rf} (h : NMap w b n) (hv : Row w base v l) : v.ownBlock ≠ some b := by
  intro e
  obtain ⟨D, es, clock, h1, _⟩ := h
  rcases hv.2 with ⟨rfl, _⟩ | ⟨g, c, cur, rfl, _, hg, _⟩
  · cases e
  · have : g = b := Option.some.inj e
    rw [this, h1] at hg
    cases hg
theorem Rf.Ok.key {r : Rf} (h : r.Ok) : ∃ kl, keyOf Tryz.prog 33 (.agg #[.int .i64 r.s, .int .u32 r.g]) = some kl := by
  obtain ⟨h0, h1, h2, h3⟩ := h
  have e1 : IntKind.i64.min = -9223372036854775808 := by decide
  have e2 : IntKind.i64.max = 9223372036854775807 := by decide
  have e3 : IntKind.u32.min = 0 := by decide
  have e4 : IntKind.u32.max = 4294967295 := by decide
  exact ref_key (by simp [Lit.wf, e1, e2]; omega) (by simp [Lit.wf, e3, e4]; omega)
theorem rch_ok {A : Ar} (h : A.Ok) {r : Rf} (hr : Rch A r) : r.Ok := by
  induction hr with
  | @root m i h1 h2 => exact (h.rt m h1).2 i h2
  | @var i h1 h2 => exact (h.gl i h1).ok h2
  | @field r q _ _ he _ =>
    obtain ⟨_, _, hz, k, hk, rfl⟩ := he
    exact ((h.ob _).fine hk).ok hz
theorem nmap_look {w : World} {b n : Nat} (h : NMap w b n) {r : Rf} (hr : r.Ok) : ∃ z : Int, Sem.run Tryz.prog (Instr.lookup 225 (.map (some b)) (.agg #[.int .i64 r.s, .int .u32 r.g]) false) w = .ok (.int .i64 z) w := by
  obtain ⟨D, hD⟩ := h
  obtain ⟨kl, hkl⟩ := hr.key
  obtain ⟨c, h1, _, _⟩ := hD.lookup_int (t := 225) ref_law Tryz.underlying225 Tryz.underlying3 (by kernel_rfl) hkl
  exact ⟨c, h1⟩
theorem nmap_set {w : World} {b n : Nat} (h : NMap w b n) {r : Rf} (hr : r.Ok) (hn : n ≤ 5000) : ∃ w', Sem.run Tryz.prog (Instr.mapUpdate 225 (.map (some b)) (.agg #[.int .i64 r.s, .int .u32 r.g]) (.int .i64 1)) w = .ok () w' ∧ NMap w' b (n + 1) ∧ Keeps (fun y => y = b) w w' := by
  obtain ⟨D, hD⟩ := h
  obtain ⟨kl, hkl⟩ := hr.key
  obtain ⟨w', h1, h2, h3⟩ := hD.update (t := 225) ref_law Tryz.underlying225 (by simp [maxLen]; omega) hkl (plainElem_int (H := Unit) Tryz.underlying3 (a := 1) (by decide))
  exact ⟨w', h1, ⟨_, h2⟩, (grown_keeps h3).mono (fun k _ h => (Option.some.inj h).symm)⟩
theorem refs_one {w : World} {b : Nat} {x : Rf} (h : w.heap[b]? = some (.cells #[.int .i64 x.s, .int .u32 x.g] 33)) : Refs w (.slice (some ⟨b, 0, none⟩) 1 1) [x] :=
  .inr ⟨b, 1, _, rfl, h, fun j r hj => by
    match j, hj with
    | 0, hj => obtain rfl : x = r := Option.some.inj hj; exact ⟨rfl, rfl⟩⟩
set_option maxRecDepth 100000 in
set_option maxHeartbeats 4000000 in
theorem reached25 (a : Nat) (LA : ArL) (A : Ar) (w : World) (h : ArIn w a LA A) (hok : A.Ok) :
    Calls Tryz.prog 58 #[.pointer (some ⟨a, 0, none⟩)] w fun e w' => ∃ v, e = .returned v ∧ ∃ l, Refs w' v l ∧ Gath A l ∧ l.length ≤ 5000 ∧ Keeps (fun _ => False) w w' := by
  have HA := hid (fun W (hk : Keeps (fun _ => False) w W) => h.keeps0 hk)
  have HOK := hid hok
  have hm1 := h.m1; have hm4 := h.m4
  have hmx : ¬ (4 : Int) < (A.many : Int) := by omega
  clear h hok
  go_enter Tryz.func58, Tryz.ntmps58
  go_wp2_with fail
  refine (asizes_ok a LA A w (HA.out _ (Keeps.refl _ _))).mono ?_
  rintro e w1 ⟨rfl, k1⟩
  have HK1 := hid k1
  clear k1
  go_wp2_with fail
  refine (aglobals_row a LA A w1 (HA.out _ HK1.out)).mono ?_
  rintro e w2 ⟨v0, rfl, hr2, k2⟩
  have HK2 := hid (HK1.out.trans k2); have HR2 := hid (hr2.mono HK1.out.size)
  clear hr2 k2 HK1
  go_wp2_with fail
  go_loopw [5, 25] (fun s5 ix wr => ∃ (k : Nat) (l : List Rf) (c : Nat) (p : Option Addr), k ≤ A.many ∧ ix = .int .i64 k ∧ s5 = .slice p l.length c ∧ Hid (Row wr w.heap.size (.slice p l.length c) l) ∧ Hid (Gath A l) ∧ l.length ≤ 8 + 32 * k ∧ Hid (Keeps (fun _ => False) w wr)) (fun _ ix _ => A.many - (intOf ix).toNat)
  case atStart =>
    obtain ⟨p, c, rfl⟩ := HR2.out.refs.slice
    refine ⟨0, A.glL, c, p, Nat.zero_le _, rfl, rfl, HR2, hid (gath_gl A), ?_, HK2⟩
    have h1 : A.glL.length ≤ ((List.range 8).map A.gl).length := List.length_filter_le _ _
    simpa using h1
  case round =>
    obtain ⟨k, l, c, p, hk, rfl, rfl, HRl, HGl, hll, HKr⟩ := hrel
    by_cases hlt : k < A.many
    · have hlt' : (k : Int) < (A.many : Int) := by omega
      have hk0 : (0 : Int) ≤ k := by omega
      have hrn := (HOK.out.rt k hlt).1
      go_wp2_with fail
      refine (astackall_ok a LA A k wr (HA.out _ HKr.out) hlt).mono ?_
      rintro e w3 ⟨v7, rfl, hr7, k3⟩
      have HR3 := hid (HRl.out.keeps k3 (fun _ _ _ _ h => h)); have HR7 := hid hr7.refs; have HK3 := hid (HKr.out.trans k3)
      have HGR := hid (gath_rt A hlt)
      have hlr : (A.rt k).l.length = (A.rt k).n := by simp [Sk.l]
      clear hr7 k3
      go_wp2_with (first
        | (at_builtin; refine wpList_append_refs _ rfl _ _ rfl w.heap.size _ _ l (A.rt k).l rfl rfl HR3.out HR7.out (by omega) HK3.out.size ?_; intro v9 w9 hr9 hk9 ho9)
        | fail)
      obtain ⟨p9, c9, rfl⟩ := hr9.refs.slice
      refine ⟨⟨k + 1, l ++ (A.rt k).l, c9, p9, by omega, by go_num, rfl, hr9, hid (HGl.out.append HGR.out), by rw [List.length_append]; omega, ?_⟩, by simp [intOf]; omega⟩
      exact hid (HK3.out.trans' hk9 (fun _ _ h => h) (fun y hy hz => by have := (HR3.out.lt y hz).1; omega))
    · have hlt' : ¬ (k : Int) < (A.many : Int) := by omega
      obtain ⟨wo, rfl⟩ : ∃ wo : World, wo = wr := ⟨_, rfl⟩
      have hl136 : l.length ≤ 136 := by omega
      clear hlt hll
      have hmm : Sem.run Tryz.prog (Instr.makeMap 225 none) wo = .ok (.map (some wo.heap.size)) (wo.alloc (.map #[] 0)) := run_makeMap _ _
      go_wp2_with fail
      clear hlt' hmm
      obtain ⟨wm, hwm⟩ : ∃ wm, wo.alloc (.map #[] 0) = wm := ⟨_, rfl⟩
      have hnm : NMap wm wo.heap.size 0 := by rw [← hwm]; exact NMap.made wo
      have hkm : Keeps (fun _ => False) wo wm := by rw [← hwm]; exact (Keeps.refl _ _).alloc _
      obtain ⟨bm, hbm⟩ : ∃ bm, wo.heap.size = bm := ⟨_, rfl⟩
      rw [hwm]
      rw [hbm] at hnm ⊢
      have hwbm : w.heap.size ≤ bm := by rw [← hbm]; exact HKr.out.size
      have HNM := hid hnm; have HKM := hid (HKr.out.trans hkm); have HRM := hid (HRl.out.keeps hkm (fun _ _ _ _ h => h))
      clear hwm hnm hkm hbm HRl HKr HR2 HK2
      go_loopw [5, 10, 11] (fun s5 s10 ix wr => ∃ (i : Nat) (l m : List Rf) (p q : Option Addr) (c d : Nat), i ≤ 5000 ∧ ix = .int .i64 i ∧ s5 = .slice p l.length c ∧ s10 = .slice q m.length d ∧ Hid (Row wr w.heap.size (.slice p l.length c) l) ∧ Hid (Row wr w.heap.size (.slice q m.length d) m) ∧
        Hid (∀ y, (Value.slice p l.length c).ownBlock = some y → (Value.slice q m.length d).ownBlock ≠ some y) ∧ Hid (∃ n, n ≤ i ∧ NMap wr bm n) ∧ Hid (Gath A l) ∧ Hid (Gath A m) ∧ l.length ≤ 136 + 4 * i ∧ m.length ≤ i ∧ Hid (Keeps (fun _ => False) w wr)) (fun _ _ ix _ => 5000 - (intOf ix).toNat)
      case atStart =>
        exact ⟨0, l, [], p, none, c, 0, Nat.zero_le _, rfl, rfl, rfl, HRM, hid (Row.nil _ _), hid (fun y _ h => by cases h), hid ⟨0, Nat.le_refl _, HNM.out⟩, HGl, hid (fun r h => by cases h), by omega, Nat.zero_le _, HKM⟩
      case round =>
        obtain ⟨i, l, m, p, q, c, d, hi, rfl, rfl, rfl, HRl, HRm, HSP, HMP, HGl, HGm, hll, hml, HKr⟩ := hrel
        have hi0 : (0 : Int) ≤ i := by omega
        by_cases hlt : i < l.length ∧ i < 5000
        · obtain ⟨hl1, hl2⟩ := hlt
          have hl1' : (i : Int) < (l.length : Int) := by omega
          have hl2' : (i : Int) < 5000 := by omega
          obtain ⟨x, hx⟩ : ∃ x, l[i]? = some x := ⟨_, List.getElem?_eq_getElem hl1⟩
          obtain ⟨_, hcell⟩ := HRl.out.refs.cell
          obtain ⟨g, rfl, hg, c0, c1⟩ := hcell i x hx
          clear hcell
          have hRx := HGl.out x (List.mem_of_getElem? hx)
          have HX := hid hx
          have hxo := rch_ok HOK.out hRx
          obtain ⟨n, hn, hnm⟩ := HMP.out
          obtain ⟨z, hlook⟩ := nmap_look hnm hxo
          obtain ⟨w3, hset, hnm3, hk3⟩ := nmap_set hnm hxo (by omega)
          have HN3 := hid hnm3; have HK3 := hid hk3
          have HR3 := hid (HRl.out.keeps hk3 (fun y _ _ hy he => own_map hnm HRl.out (by rw [hy, he])))
          have HM3 := hid (HRm.out.keeps hk3 (fun y _ _ hy he => own_map hnm HRm.out (by rw [hy, he])))
          obtain ⟨_, hcell3⟩ := HR3.out.refs.cell
          clear hx hnm hnm3 hk3
          by_cases hz : 0 < z
          · clear hset hcell3 HN3 HK3 HR3 HM3
            go_wp2_with fail
            refine ⟨⟨i + 1, l, m, _, _, c, d, by omega, by go_num, rfl, rfl, HRl, HRm, HSP, ?_, HGl, HGm, by omega, by omega, HKr⟩, by simp [intOf]; omega⟩
            obtain ⟨n', h1, h2⟩ := HMP.out
            exact hid ⟨n', by omega, h2⟩
          · have hzn : decide (0 < z) = false := by simpa using hz
            obtain ⟨g3, eg, hg3, d0, d1⟩ := hcell3 i x HX.out
            obtain rfl : g = g3 := by injection eg with eg; injection eg
            clear hcell3 eg hz
            have HR4 := hid (HR3.out.keeps ((Keeps.refl (fun _ => False) _).alloc (.cells #[.int .i64 x.s, .int .u32 x.g] 33)) (fun _ _ _ _ h => h))
            have HM4 := hid (HM3.out.keeps ((Keeps.refl (fun _ => False) _).alloc (.cells #[.int .i64 x.s, .int .u32 x.g] 33)) (fun _ _ _ _ h => h))
            have HN4 := hid (HN3.out.keeps ((Keeps.refl (fun _ => False) _).alloc (.cells #[.int .i64 x.s, .int .u32 x.g] 33)) (fun h => h))
            have HK4 := hid (show Keeps (fun _ => False) w (w3.alloc (.cells #[.int .i64 x.s, .int .u32 x.g] 33)) from (HKr.out.trans' HK3.out (fun _ _ h => h) (fun y hy h => by omega)).alloc _)
            have HRO := hid (refs_one (alloc_new (w := w3) (o := .cells #[.int .i64 x.s, .int .u32 x.g] 33)))
            go_wp2_with (first
              | (at_builtin; refine wpList_append_refs _ rfl _ _ rfl w.heap.size (.slice q m.length d) _ m [x] rfl rfl HM4.out HRO.out (by simp; omega) HK4.out.size ?_; intro v5 w5 hr5 hk5 ho5; have HR5 := hid (HR4.out.keeps hk5 (fun y _ _ hy hm => HSP.out y hy hm)); obtain ⟨_, hcell5⟩ := HR5.out.refs.cell; obtain ⟨g5, eg, hg5, f0, f1⟩ := hcell5 i x HX.out; obtain rfl : g = g5 := (by injection eg with eg; injection eg); clear hcell5 eg)
              | fail)
            have HR6 := hid hr5; have HO5 := hid ho5
            have HN5 := hid (HN4.out.keeps hk5 (own_map HN4.out HM4.out))
            have HK5 := hid (show Keeps (fun _ => False) w w5 from HK4.out.trans' hk5 (fun _ _ h => h) (fun y hy hz => by have := (HM4.out.lt y hz).1; omega))
            clear hr5 hk5 ho5 d0 d1 c0 c1 hset
            obtain ⟨o, ec, hoc, hcall⟩ := aobject_any a LA A x w5 (HA.out _ HK5.out)
            have HOC := hid hoc; have HCALL := hid hcall
            clear hoc hcall
            refine HCALL.out.mono ?_
            rintro e w6 ⟨rfl, k6⟩
            dsimp only [Ob.arr]
            obtain ⟨q5, d5, rfl⟩ := HR6.out.refs.slice
            have HSP5 := hid (show ∀ y, (Value.slice (some ⟨g, 0, none⟩) l.length c).ownBlock = some y → (Value.slice q5 (m ++ [x]).length d5).ownBlock ≠ some y from fun y hy hz => by
              rcases HO5.out with h | h
              · exact HSP.out y hy (by rw [← h]; exact hz)
              · rw [h] at hz
                have h1 := (HR4.out.lt y hy).2
                have h2 := Option.some.inj hz
                omega)
            have HRl6 := hid (HR5.out.keeps k6 (fun _ _ _ _ h => h)); have HRm6 := hid (HR6.out.keeps k6 (fun _ _ _ _ h => h)); have HN6 := hid (HN5.out.keeps k6 (fun h => h)); have HK6 := hid (HK5.out.trans k6)
            have HGm6 := hid (HGm.out.append (m := [x]) (fun r hr => by rw [List.mem_singleton.1 hr]; exact hRx))
            have hml6 : (m ++ [x]).length ≤ i + 1 := by simp; omega
            clear k6 HR5 HR6 HN5 HK5 HR4 HM4 HN4 HK4 HO5 HRO HRl HRm HSP HGm HKr f0 f1
            obtain ⟨m6, hm6⟩ : ∃ m6, m ++ [x] = m6 := ⟨_, rfl⟩
            rw [hm6] at HSP5 HRm6 HGm6 hml6 ⊢
            clear hm6
            rcases HOC.out with ⟨rfl, hth, ho⟩ | ⟨hne, _, _⟩
            · have HTH := hid hth; have HOE := hid ho
              clear hth ho
              go_wp2_with fail
              have hidx : ∀ (j : Nat), j < 4 → ∀ W, Sem.run Tryz.prog (Instr.index 134 (.agg #[.int .i64 o.f0.s, .int .u32 o.f0.g, .int .i64 o.f1.s, .int .u32 o.f1.g, .int .i64 o.f2.s, .int .u32 o.f2.g, .int .i64 o.f3.s, .int .u32 o.f3.g]) (.int .i64 j)) W = .ok (.agg #[.int .i64 (o.fs j).s, .int .u32 (o.fs j).g]) W := fun j hj W => idx4 o hj W
              have HIDX := hid hidx
              clear hidx
              obtain ⟨w7, hw7⟩ : ∃ w7, w6.alloc (.cells #[.int .i64 o.n, .int .i64 o.f0.s, .int .u32 o.f0.g, .int .i64 o.f1.s, .int .u32 o.f1.g, .int .i64 o.f2.s, .int .u32 o.f2.g, .int .i64 o.f3.s, .int .u32 o.f3.g, .bool o.h] 136) = w7 := ⟨_, rfl⟩
              have hk7 : Keeps (fun _ => False) w6 w7 := by rw [← hw7]; exact (Keeps.refl _ _).alloc _
              rw [hw7]
              have HK7 := hid hk7
              have HGO := hid (show ∀ j, j < 4 → (o.fs j).nz = true → Rch A (o.fs j) from fun j hj hz => by
                obtain ⟨_, _, h3, h4, _⟩ := There.lt HTH.out
                rw [HOE.out] at hz ⊢
                exact .field hRx HTH.out ⟨h3, h4, hz, j, hj, rfl⟩)
              clear hw7 hk7 HTH HOE
              go_loopw [5, 81] (fun s5 ix wr => ∃ (j : Nat) (l' : List Rf) (p' : Option Addr) (c' : Nat), j ≤ 4 ∧ ix = .int .i64 j ∧ s5 = .slice p' l'.length c' ∧ Hid (Row wr w.heap.size (.slice p' l'.length c') l') ∧ Hid (Row wr w.heap.size (.slice q5 m6.length d5) m6) ∧
                Hid (∀ y, (Value.slice p' l'.length c').ownBlock = some y → (Value.slice q5 m6.length d5).ownBlock ≠ some y) ∧ Hid (NMap wr bm (n + 1)) ∧ Hid (Gath A l') ∧ l'.length ≤ 136 + 4 * i + j ∧ Hid (Keeps (fun _ => False) w wr)) (fun _ ix _ => 4 - (intOf ix).toNat)
              case atStart =>
                exact ⟨0, l, _, c, Nat.zero_le _, rfl, rfl, hid (HRl6.out.keeps HK7.out (fun _ _ _ _ h => h)), hid (HRm6.out.keeps HK7.out (fun _ _ _ _ h => h)), HSP5, hid (HN6.out.keeps HK7.out (fun h => h)), HGl, by omega, hid (HK6.out.trans HK7.out)⟩
              case round =>
                obtain ⟨j, l', p', c', hj, rfl, rfl, HRl', HRm', HSP', HN', HGl', hll', HKr'⟩ := hrel
                by_cases hlt : j < 4
                · have hlt' : (j : Int) < 4 := by omega
                  have hj0 : (0 : Int) ≤ j := by omega
                  have hidx := HIDX.out j hlt
                  have hgo := HGO.out j hlt
                  obtain ⟨y, hy⟩ : ∃ y, o.fs j = y := ⟨_, rfl⟩
                  rw [hy] at hidx hgo
                  have hneq := fun W => neq_nz y W
                  clear hy
                  rcases hz : y.nz with _ | _
                  · rw [hz] at hneq
                    clear hz hgo
                    go_wp2_with fail
                    refine ⟨⟨j + 1, l', p', c', by omega, by go_num, rfl, ?_, ?_, HSP', ?_, HGl', by omega, hid (HKr'.out.alloc _)⟩, by simp [intOf]; omega⟩
                    · exact hid (HRl'.out.keeps ((Keeps.refl (fun _ => False) _).alloc _) (fun _ _ _ _ h => h))
                    · exact hid (HRm'.out.keeps ((Keeps.refl (fun _ => False) _).alloc _) (fun _ _ _ _ h => h))
                    · exact hid (HN'.out.keeps ((Keeps.refl (fun _ => False) _).alloc _) (fun h => h))
                  · rw [hz] at hneq
                    have HGY := hid (hgo hz)
                    clear hz hgo
                    have hky : Keeps (fun _ => False) wr ((wr.alloc (.cells #[.int .i64 y.s, .int .u32 y.g] 33)).alloc (.cells #[.int .i64 y.s, .int .u32 y.g] 33)) := ((Keeps.refl (fun _ => False) _).alloc _).alloc _
                    have HRa := hid (HRl'.out.keeps hky (fun _ _ _ _ h => h)); have HMa := hid (HRm'.out.keeps hky (fun _ _ _ _ h => h)); have HNa := hid (HN'.out.keeps hky (fun h => h)); have HKa := hid (HKr'.out.trans hky)
                    have HRy := hid (refs_one (alloc_new' (w := wr.alloc (.cells #[.int .i64 y.s, .int .u32 y.g] 33)) (n := wr.heap.size + 1) (o := .cells #[.int .i64 y.s, .int .u32 y.g] 33) (by simp)))
                    clear hky
                    go_wp2_with (first
                      | (at_builtin; refine wpList_append_refs _ rfl _ _ rfl w.heap.size (.slice p' l'.length c') _ l' [y] rfl rfl HRa.out HRy.out (by simp; omega) HKa.out.size ?_; intro v9 w9 hr9 hk9 ho9)
                      | fail)
                    obtain ⟨p9, c9, rfl⟩ := hr9.refs.slice
                    have hlt9 := HRa.out.lt
                    refine ⟨⟨j + 1, l' ++ [y], p9, c9, by omega, by go_num, rfl, hid hr9, ?_, ?_, ?_, hid (HGl'.out.append (m := [y]) (fun r hr => by rw [List.mem_singleton.1 hr]; exact HGY.out)), by simp; omega, ?_⟩, by simp [intOf]; omega⟩
                    · exact hid (HMa.out.keeps hk9 (fun u _ _ hu hm => HSP'.out u hm hu))
                    · refine hid (fun u hu hm => ?_)
                      rcases ho9 with h | h
                      · exact HSP'.out u (by rw [← h]; exact hu) hm
                      · rw [h] at hu
                        have h1 := (HMa.out.lt u hm).2
                        have h2 := Option.some.inj hu
                        omega
                    · exact hid (HNa.out.keeps hk9 (own_map HNa.out HRa.out))
                    · exact hid (HKa.out.trans' hk9 (fun _ _ h => h) (fun u hu h => by have := (hlt9 u h).1; omega))
                · have hlt' : ¬ (j : Int) < 4 := by omega
                  clear HIDX HGO
                  go_wp2_with fail
                  refine ⟨⟨i + 1, l', m6, _, _, c', d5, by omega, by go_num, rfl, rfl, HRl', HRm', HSP', hid ⟨n + 1, by omega, HN'.out⟩, HGl', HGm6, by omega, hml6, HKr'⟩, by simp [intOf]; omega⟩
            · go_wp2_with fail
              refine ⟨⟨i + 1, l, m6, _, _, c, d5, by omega, by go_num, rfl, rfl, ?_, ?_, HSP5, ?_, HGl, HGm6, by omega, hml6, ?_⟩, by simp [intOf]; omega⟩
              · exact hid (HRl6.out.keeps ((Keeps.refl (fun _ => False) _).alloc _) (fun _ _ _ _ h => h))
              · exact hid (HRm6.out.keeps ((Keeps.refl (fun _ => False) _).alloc _) (fun _ _ _ _ h => h))
              · obtain ⟨n', h1, h2⟩ := HMP.out
                exact hid ⟨n + 1, by omega, HN6.out.keeps ((Keeps.refl (fun _ => False) _).alloc _) (fun h => h)⟩
              · exact hid (HK6.out.alloc _)
        · have hml' := hml
          have fin : ∃ v l, Value.slice q m.length d = v ∧ Refs wr v l ∧ Gath A l ∧ l.length ≤ 5000 ∧ Keeps (fun _ => False) w wr := ⟨_, m, rfl, HRm.out.refs, HGm.out, by omega, HKr.out⟩
          have FIN := hid fin
          clear fin hml'
          by_cases hl1 : i < l.length
          · have hl1' : (i : Int) < (l.length : Int) := by omega
            have hl2' : ¬ (i : Int) < 5000 := by omega
            clear hlt
            go_wp2_with fail
            go_ret
            obtain ⟨v, l, rfl, h⟩ := FIN.out
            exact ⟨_, rfl, l, h⟩
          · have hl1' : ¬ (i : Int) < (l.length : Int) := by omega
            clear hlt
            go_wp2_with fail
            go_ret
            obtain ⟨v, l, rfl, h⟩ := FIN.out
            exact ⟨_, rfl, l, h⟩
end Go.Proofs.YtehmoikbeflkaaaGreat

/- slices.Contains of names. -/
namespace Go.Proofs.YtehmoikbeflkaaaGreat
open Go.RowKit
set_option linter.unusedVariables false

set_option maxRecDepth 100000 in
theorem rindexv (v : Value) (l : List Rf) (x : Rf) (w : World) (hv : Refs w v l) (hb : l.length ≤ 65536) :
    Calls Tryz.prog 94 #[v, .agg #[.int .i64 x.s, .int .u32 x.g]] w fun e w' => ∃ k : Int, e = .returned (.int .i64 k) ∧ decide (0 ≤ k) = decide (x ∈ l) ∧ Keeps (fun _ => False) w w' := by
  obtain ⟨p, c, rfl⟩ := hv.slice
  have HV := hid (fun W (hk : Keeps (fun _ => False) w W) => (hv.keeps hk (fun _ _ h => h)).cell.2)
  obtain ⟨n, hn⟩ : ∃ n, l.length = n := ⟨_, rfl⟩
  rw [hn] at hb ⊢
  have HQ := hid (fun W (hk : Keeps (fun _ => False) (w.alloc (.cells #[.int .i64 x.s, .int .u32 x.g] 33)) W) => cells2 (block_keep (alloc_new (w := w)) hk (fun h => h)))
  clear hv
  go_enter Tryz.func94, Tryz.ntmps94
  go_wp2_with fail
  obtain ⟨w1, hw1⟩ : ∃ w1, w.alloc (.cells #[.int .i64 x.s, .int .u32 x.g] 33) = w1 := ⟨_, rfl⟩
  have hk1 : Keeps (fun _ => False) w w1 := by rw [← hw1]; exact (Keeps.refl _ _).alloc _
  rw [hw1] at HQ ⊢
  have HK1 := hid hk1
  clear hw1 hk1
  go_loopw [8] (fun ix wr => ∃ k : Nat, k ≤ n ∧ ix = .int .i64 k ∧ x ∉ l.take k ∧ Keeps (fun _ => False) w1 wr) (fun ix _ => n - (intOf ix).toNat)
  case atStart => exact ⟨0, Nat.zero_le _, rfl, by simp, Keeps.refl _ _⟩
  case round =>
    obtain ⟨k, hk, rfl, hno, hkr⟩ := hrel
    have HKR := hid hkr; have HNO := hid hno
    by_cases hlt : k < n
    · obtain ⟨y, hy⟩ : ∃ y, l[k]? = some y := ⟨_, List.getElem?_eq_getElem (by omega)⟩
      obtain ⟨g, rfl, hg, c0, c1⟩ := HV.out wr (HK1.out.trans hkr) k y hy
      obtain ⟨b0, b1, _, bl⟩ := HQ.out wr hkr
      have hlt' : (k : Int) < (n : Int) := by omega
      have hk0 : (0 : Int) ≤ k := by omega
      have HY := hid hy
      have heql := fun W => eql_ref W x.s x.g y.s y.g
      simp only [Rf.eq_iff] at heql
      clear hkr hy hno
      by_cases hxy : x = y
      · rw [decide_eq_true hxy] at heql
        have HD := hid (show decide (x ∈ l) = true from decide_eq_true (by rw [hxy]; exact List.mem_of_getElem? HY.out))
        clear hxy
        go_wp2_with fail
        go_quiet (fail)
        go_wp2_with fail
        go_ret
        exact ⟨k, rfl, by rw [HD.out]; simp, HK1.out.trans (HKR.out.drewN _)⟩
      · rw [decide_eq_false hxy] at heql
        have HXY := hid hxy
        clear hxy
        go_wp2_with fail
        go_quiet (fail)
        go_wp2_with fail
        refine ⟨⟨k + 1, by omega, by go_num, ?_, HKR.out.drewN _⟩, by simp [intOf]; omega⟩
        intro hm
        rw [List.take_add_one, HY.out] at hm
        rcases List.mem_append.1 hm with hm | hm
        · exact HNO.out hm
        · simp at hm; exact HXY.out hm
    · have hlt' : ¬ (k : Int) < (n : Int) := by omega
      have HD := hid (show decide (x ∈ l) = false from decide_eq_false (fun h => hno (by rw [List.take_of_length_le (by omega)]; exact h)))
      clear hkr hno
      go_wp2_with fail
      go_ret
      exact ⟨-1, rfl, ⟨fun h => absurd h (by decide), fun h => absurd h (of_decide_eq_false HD.out)⟩, HK1.out.trans HKR.out⟩
theorem rcontains (v : Value) (l : List Rf) (x : Rf) (w : World) (hv : Refs w v l) (hb : l.length ≤ 65536) :
    Calls Tryz.prog 23 #[v, .agg #[.int .i64 x.s, .int .u32 x.g]] w fun e w' => e = .returned (.bool (decide (x ∈ l))) ∧ Keeps (fun _ => False) w w' := by
  have HI := hid (rindexv v l x _ (hv.keeps ((Keeps.refl (fun _ => False) w).alloc (.cells #[.int .i64 x.s, .int .u32 x.g] 33)) (fun _ _ h => h)) hb)
  clear hv
  go_enter Tryz.func23, Tryz.ntmps23
  go_wp2_with fail
  refine HI.out.mono ?_
  rintro e w1 ⟨k, rfl, hd, hk⟩
  have HD := hid hd; have HK := hid (((Keeps.refl (fun _ => False) w).alloc _).trans hk)
  clear hd hk
  go_wp2_with fail
  go_ret
  exact ⟨ret_bool HD.out, HK.out⟩
end Go.Proofs.YtehmoikbeflkaaaGreat

/- estraylaw25: a row's first cells; names beside a system. -/
namespace Go.Proofs.YtehmoikbeflkaaaGreat
open Go.RowKit
set_option linter.unusedVariables false

theorem Row.firsts {w : World} {base : Nat} {v : Value} {l : List Rf} (h : Row w base v l) (hl : l ≠ []) : ∃ g cap cur, v = .slice (some ⟨g, 0, none⟩) l.length cap ∧ base ≤ g ∧ w.heap[g]? = some (.cells cur 33) ∧ Firsts cur l ∧ l.length ≤ cap ∧ cap ≤ maxLen ∧ cur.size = cap * 2 := by
  obtain ⟨h1, h2⟩ := h
  rcases h2 with ⟨rfl, h2⟩ | ⟨g, cap, cur, rfl, hb, hg, r1, r2, r3, r4⟩
  · exact absurd (List.eq_nil_of_length_eq_zero h2) hl
  · refine ⟨g, cap, cur, rfl, hb, hg, fun j r hj => ?_, r1, r2, r3⟩
    have hlt : j < l.length := (List.getElem?_eq_some_iff.1 hj).1
    obtain ⟨a, b⟩ := encR_at hj
    rw [← r4] at a b
    rw [List.getElem?_take_of_lt (by omega), Array.getElem?_toList] at a b
    exact ⟨a, b⟩
theorem Trio.farN {w0 w W w' : World} {a m b : Nat} {LA : ArL} {LM : MkL} {s t : Sys} {S T : Sw} (h : Trio w0 w a m b LA LM s S) (hW : Trio w0 W a m b LA LM t T) (h3 : t.A.many = s.A.many) (h4 : t.M.K.many = s.M.K.many) (hk : Keeps (fun y => w.heap.size ≤ y) W w') : Trio w0 w' a m b LA LM t T :=
  ⟨Both.far h.both hW.both h3 h4 hk, hW.sw.keeps hk (by have := lt_block h.sw.own; omega), h.hb⟩
theorem Trio.refs {w0 w w' : World} {a m b : Nat} {LA : ArL} {LM : MkL} {s : Sys} {S : Sw} (h : Trio w0 w a m b LA LM s S) {v : Value} {l : List Rf} (hv : Refs w v l) (hk : Keeps (fun y => y = b ∨ foot2 LA LM s y) w w') : Refs w' v l := by
  rcases hv with hv | ⟨g, cap, cur, rfl, hg, hc⟩
  · exact .inl hv
  · exact .inr ⟨g, cap, cur, rfl, block_keep hg hk (h.noref hg), hc⟩
theorem Trio.row {w0 w w' : World} {a m b base : Nat} {LA : ArL} {LM : MkL} {s : Sys} {S : Sw} (h : Trio w0 w a m b LA LM s S) {v : Value} {l : List Rf} (hv : Row w base v l) (hk : Keeps (fun y => y = b ∨ foot2 LA LM s y) w w') : Row w' base v l := by
  refine hv.keeps hk (fun k _ _ hk' => ?_)
  rcases hv.2 with ⟨rfl, _⟩ | ⟨g, cap, cur, rfl, _, hg, _⟩
  · cases hk'
  · obtain rfl : g = k := Option.some.inj hk'
    exact h.noref hg
theorem trio_mv {w0 w w' : World} {a m b : Nat} {LA : ArL} {LM : MkL} {s s' : Sys} {S : Sw} (h : Trio w0 w a m b LA LM s S) (hk : Keeps (foot2 LA LM s) w w') (hb : Both w0 w' a m LA LM s') : Trio w0 w' a m b LA LM s' S :=
  ⟨hb, h.sw.keeps hk (h.sw.foot h.both), h.hb⟩
theorem un_tk (s : Sys) (hn : s.A.H.T.n = s.M.P.n) : s.A.H.T.tk.filter (fun r => s.M.P.c r.s.toNat == 0) = s.un s.M.P.n := by
  unfold Sys.un Tb.tk
  rw [hn]
end Go.Proofs.YtehmoikbeflkaaaGreat
