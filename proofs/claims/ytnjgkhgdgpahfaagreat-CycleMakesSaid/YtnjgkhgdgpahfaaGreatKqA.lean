/- slices.Equal of names. -/
import Derived.Test.YtnjgkhgdgpahfaaGreatMgM
import Derived.Test.YtnjgkhgdgpahfaaGreatMgC
import Derived.Test.YtnjgkhgdgpahfaaGreatCgA
import Derived.Maps.OwnOps
import Derived.DeepKeys4
import Derived.Test.YtnjgkhgdgpahfaaGreatMgU
import Derived.Maps.AppendAt
import Derived.Test.YtnjgkhgdgpahfaaGreatNgE
import Derived.Test.YtnjgkhgdgpahfaaGreatMgR
import Derived.Test.YtnjgkhgdgpahfaaGreatMgX
namespace Go.Proofs.YtnjgkhgdgpahfaaGreat
open Go.RowKit
set_option linter.unusedVariables false
set_option linter.unusedSimpArgs false

theorem Refs.cell {w : World} {a : Option Addr} {n c : Nat} {l : List Rf} (h : Refs w (.slice a n c) l) : n = l.length ∧ ∀ (j : Nat) (r : Rf), l[j]? = some r → ∃ g, a = some ⟨g, 0, none⟩ ∧ g < w.heap.size ∧ w.cell? ⟨g, j * 2, none⟩ = some (.int .i64 r.s) ∧ w.cell? ⟨g, j * 2 + 1, none⟩ = some (.int .u32 r.g) := by
  rcases h with ⟨e, rfl⟩ | ⟨g, cap, cur, e, hg, hc⟩
  · injection e with e1 e2 e3
    exact ⟨e2, fun j r hj => by cases hj⟩
  · injection e with e1 e2 e3
    exact ⟨e2, fun j r hj => ⟨g, e1, lt_block hg, cell_at hg (hc j r hj).1, cell_at hg (hc j r hj).2⟩⟩
theorem Refs.slice {w : World} {v : Value} {l : List Rf} (h : Refs w v l) : ∃ a c, v = .slice a l.length c := by
  rcases h with ⟨rfl, rfl⟩ | ⟨g, cap, cur, rfl, hg, hc⟩
  · exact ⟨_, _, rfl⟩
  · exact ⟨_, _, rfl⟩
theorem Rf.eq_iff {x y : Rf} : (x.s == y.s && x.g == y.g) = decide (x = y) := by
  obtain ⟨a, b⟩ := x; obtain ⟨c, d⟩ := y
  rw [Bool.eq_iff_iff]
  simp
end Go.Proofs.YtnjgkhgdgpahfaaGreat

/- Maps with names as keys. -/
namespace Go.Proofs.YtnjgkhgdgpahfaaGreat
open Go.RowKit
open Go.Maps (Keyed)

theorem ref_row : (39 : TypeId) < Tryz.prog.types.size := of_decide_eq_true (by kernel_rfl)
theorem ref_cells : Tryz.prog.cellsOf 39 = 2 := by kernel_rfl
theorem ref_formed {c0 c1 : Value} : (Value.agg #[c0, c1]).formed Tryz.prog 39 = true := by simp [Value.formed, Tryz.underlying39, ref_cells]
theorem ref_keytype : Tryz.prog.keyType 39 = true := by kernel_rfl
theorem size_pos {P : Program} {k : TypeId} (h : k < P.types.size) : ∃ d, P.types.size = d + 1 := ⟨_, (Nat.sub_add_cancel (Nat.lt_of_le_of_lt (Nat.zero_le _) h)).symm⟩
theorem keyLits_int {P : Program} {t : TypeId} {q : IntKind} (h : P.underlying t = some (.int q)) (d : Nat) {n : Int} (hw : (Lit.int q n).wf = true) : P.keyLits (d + 1) t [.int q n] = some [.int q n] := by
  simp [Program.keyLits, h, hw]
theorem ref_key {s g : Int} (hs : (Lit.int .i64 s).wf = true) (hg : (Lit.int .u32 g).wf = true) : ∃ kl, keyOf Tryz.prog 39 (.agg #[.int .i64 s, .int .u32 g]) = some kl := by
  have h1 : Tryz.prog.cellsOf 3 = 1 := by kernel_rfl
  have h2 : Tryz.prog.cellsOf 22 = 1 := by kernel_rfl
  obtain ⟨d, hd⟩ : ∃ d, Tryz.prog.types.size = d + 1 := size_pos ref_row
  have k1 := fun d => keyLits_int (P := Tryz.prog) Tryz.underlying3 d hs
  have k2 := fun d => keyLits_int (P := Tryz.prog) Tryz.underlying22 d hg
  apply Option.isSome_iff_exists.1
  unfold keyOf
  rw [Tryz.underlying39]
  simp only [ref_keytype, ref_formed, Bool.and_self, if_true]
  rw [hd]
  unfold Program.keyLits
  rw [Tryz.underlying39]
  simp [Value.cells, ref_cells, h1, h2, k1, k2]
end Go.Proofs.YtnjgkhgdgpahfaaGreat

/- Package arena: Object of any name. -/
namespace Go.Proofs.YtnjgkhgdgpahfaaGreat
open Go.RowKit
set_option linter.unusedVariables false
set_option linter.unusedSimpArgs false

set_option maxRecDepth 100000 in
set_option maxHeartbeats 1000000 in
theorem aobject_of (a : Nat) (LA : ArL) (A : Ar) (r : Rf) (o : Ob) (k : Int) (w : World) (h : ArIn w a LA A)
    (hob : ∀ W, HpAt W LA.b LA.t A.H → Calls Tryz.prog 216 #[.pointer (some ⟨LA.b, 0, none⟩), .agg #[.int .i64 r.s, .int .u32 r.g]] W fun e w' => e = .returned (.tuple #[.agg o.arr, .int .i64 k]) ∧ Keeps (fun _ => False) W w') :
    Calls Tryz.prog 170 #[.pointer (some ⟨a, 0, none⟩), .agg #[.int .i64 r.s, .int .u32 r.g]] w fun e w' => e = .returned (.tuple #[.agg o.arr, .int .i64 k]) ∧ Keeps (fun _ => False) w w' := by
  have HF := hid (fun W (hk : Keeps (fun y => w.heap.size ≤ y) w W) => And.intro ((h.keepsF hk (fun _ h => h)).c0) (And.intro (cells1 (h.keepsF hk (fun _ h => h)).obj).1 (h.keepsF hk (fun _ h => h)).heap))
  have HOB := hid hob
  clear h hob
  have q0 := alloc_old (o := .cells (Ob.new 0 false).arr 146) (alloc_new (w := w) (o := .cells #[.int .i64 r.s, .int .u32 r.g] 39))
  have q1 := alloc_new' (w := w.alloc (.cells #[.int .i64 r.s, .int .u32 r.g] 39)) (n := w.heap.size + 1) (o := .cells (Ob.new 0 false).arr 146) (by simp)
  obtain ⟨w0, hw0⟩ : ∃ w0, (w.alloc (.cells #[.int .i64 r.s, .int .u32 r.g] 39)).alloc (.cells (Ob.new 0 false).arr 146) = w0 := ⟨_, rfl⟩
  have k0 : Keeps (fun _ => False) w w0 := by rw [← hw0]; exact ((Keeps.refl _ _).alloc _).alloc _
  rw [hw0] at q0 q1
  have HQ0 := hid q0; have HQ1 := hid q1; have HK0 := hid (show Keeps (fun y => w.heap.size ≤ y) w w0 from k0.up)
  have HFF := hid (fun W (hk : Keeps (fun y => y = w.heap.size + 1) w0 W) => show W.cell? ⟨a, 0, none⟩ = some (.pointer (some ⟨LA.o, 0, none⟩)) ∧ W.cell? ⟨LA.o, 0, none⟩ = some (.pointer (some ⟨LA.b, 0, none⟩)) ∧ W.cell? ⟨w.heap.size, 0, none⟩ = some (.int .i64 r.s) ∧ W.cell? ⟨w.heap.size, 1, none⟩ = some (.int .u32 r.g) from by
    obtain ⟨g1, g2, _⟩ := HF.out W (HK0.out.trans (hk.mono (fun y _ h => by omega)))
    obtain ⟨g3, g4, _⟩ := cells2 (block_keep HQ0.out hk (by omega))
    exact ⟨g1, g2, g3, g4⟩)
  obtain ⟨c0, c1, _⟩ := HF.out w0 HK0.out
  obtain ⟨e0, e1, _, _⟩ := cells2 q0
  clear k0 q0 q1
  simp only [Ob.arr, Ob.new, Rf.no] at hw0
  go_enter Tryz.func170, Tryz.ntmps170
  go_wp2_with fail
  clear hw0
  refine ((avalid a LA.o _ c0)).mono ?_
  rintro e w' ⟨rfl, h'⟩
  obtain rfl := h'.symm
  go_wp2_with fail
  go_region_held3 (fun W => W.cell? ⟨a, 0, none⟩ = some (.pointer (some ⟨LA.o, 0, none⟩)) ∧ W.cell? ⟨LA.o, 0, none⟩ = some (.pointer (some ⟨LA.b, 0, none⟩)) ∧ W.cell? ⟨w.heap.size, 0, none⟩ = some (.int .i64 r.s) ∧ W.cell? ⟨w.heap.size, 1, none⟩ = some (.int .u32 r.g))
    ((refine HFF.out _ ?_; (repeat (first | with_reducible exact Keeps.refl _ _ | with_reducible refine Keeps.alloc ?_ _ | with_reducible refine Keeps.drew ?_ | with_reducible refine Keeps.setCell ?_ (.inl ?_) _ | with_reducible refine Keeps.trans ?_ (Keeps.up (by with_reducible assumption)))) <;> rfl))
    (first | (go_at_call 216; refine (HOB.out _ ((HF.out _ HK0.out.drew).2.2)).mono ?_; rintro e w4 ⟨rfl, hk4⟩; have hk5 := (Keeps.drew (Keeps.refl (fun _ => False) w0)).trans hk4; have q5 := block_keep HQ1.out hk5 (fun h => h); obtain ⟨d0, d1, d2, d3, d4, d5, d6, d7, d8, d9, df, dl⟩ := cells10 q5; have f0 := df 0; have f1 := df 1; have f2 := df 2; have f3 := df 3; have f4 := df 4; have f5 := df 5; have f6 := df 6; have f7 := df 7; have f8 := df 8; have f9 := df 9; simp only [Ob.arr]))
  all_goals
    go_wp2_with fail
    refine bodyPost_ret_by (v := .tuple #[.agg o.arr, .int .i64 k]) (by simp [results, Tryz.results170, go_sem, Ob.arr, *]) rfl ⟨rfl, ?_⟩
    refine Keeps.fresh ?_
    with_reducible exact keeps10_0 (HK0.out.trans hk5.up) (b := w.heap.size + 1) (.inl (by omega)) _ _ _ _ _ _ _ _ _ _
end Go.Proofs.YtnjgkhgdgpahfaaGreat

/- append of names. -/
namespace Go.Proofs.YtnjgkhgdgpahfaaGreat
open Go.RowKit

theorem run_append_refs (ty : TypeId) (base : Nat) (v u : Value) (l m : List Rf) (w : World) (hv : Row w base v l) (hu : Refs w u m) (h1 : l.length + m.length ≤ 1000000) (hb : base ≤ w.heap.size) :
    ∃ v' w', (Builtin.append_ #[101, 101] ty #[v, u]).run Tryz.prog w = .ok v' w' ∧ Row w' base v' (l ++ m) ∧ Keeps (fun k => v.ownBlock = some k) w w' ∧ (v'.ownBlock = v.ownBlock ∨ v'.ownBlock = some w.heap.size) := by
  obtain ⟨ri, hi1, hi2, hi3, hi4⟩ := ref_info
  rcases hu with ⟨rfl, rfl⟩ | ⟨g, cap, cur, rfl, hg, hc⟩
  · refine ⟨v, w, ?_, by simpa using hv, Keeps.refl _ _, .inl rfl⟩
    rcases hv.2 with ⟨rfl, _⟩ | ⟨g, c, cur, rfl, _, _, hn, _⟩
    · simp [Builtin.append_, run_underlying Tryz.underlying101, sizeOf, typeInfo, hi1, Builtin.lenOf, Builtin.firstCells]
    · simp [Builtin.append_, run_underlying Tryz.underlying101, sizeOf, typeInfo, hi1, Builtin.lenOf, Builtin.firstCells, hn, storeCells]
  · obtain ⟨v', w', r1, r2, r3, _, r5⟩ := run_append_own_at (P := Tryz.prog) w base 101 ty 39 ri (.agg #[.int .i64 0, .int .u32 0]) 2 16 Tryz.underlying101 hi1 hi2 hi3 hi4 rfl (by decide) v l.length (l.flatMap encR) hv ⟨g, 0, none⟩ m.length cap (m.flatMap encR) (encR_len m)
      (fun j x hj => by
        have hjl : j < m.length * 2 := by rw [← encR_len]; exact (List.getElem?_eq_some_iff.1 hj).1
        obtain ⟨r, hr⟩ : ∃ r, m[j / 2]? = some r := ⟨_, List.getElem?_eq_getElem (by omega)⟩
        obtain ⟨a, b⟩ := hc _ r hr
        obtain ⟨a', b'⟩ := encR_at hr
        have e0 : (⟨g, 0, none⟩ : Addr).add j = ⟨g, j, none⟩ := by unfold Addr.add; split <;> simp_all
        rw [e0, cell_block hg]
        by_cases e : j % 2 = 0
        · have e2 : j = j / 2 * 2 := by omega
          rw [e2] at hj ⊢
          rw [a]; rw [a'] at hj; exact hj
        · have e2 : j = j / 2 * 2 + 1 := by omega
          rw [e2] at hj ⊢
          rw [b]; rw [b'] at hj; exact hj)
      (fun u hu => encR_one hu) (by simp [maxLen]; omega) (by omega) hb
    refine ⟨v', w', r1, ?_, (grown_keeps r3).mono (fun k _ h => h), r5⟩
    unfold Row
    rw [List.length_append, List.flatMap_append]
    exact r2
end Go.Proofs.YtnjgkhgdgpahfaaGreat

/- estraylaw25.SweepKeeps: plain laws of sweeping. -/
namespace Go.Proofs.YtnjgkhgdgpahfaaGreat
set_option linter.unusedVariables false

theorem Ar.storeR_T (A : Ar) (m i f j : Int) : (A.storeR m i f j).A.H.T = A.H.T := by
  unfold Ar.storeR
  split
  · rfl
  split
  · rfl
  split
  · rfl
  · exact Hp.storeR_T _ _ _ _
theorem Ar.dropR_T (A : Ar) (m i : Int) : (A.dropR m i).A.H.T = A.H.T := by
  unfold Ar.dropR
  split
  · rfl
  split <;> rfl
theorem Ar.putR_T (A : Ar) (m i k : Int) : (A.putR m i k).A.H.T = A.H.T := by
  unfold Ar.putR
  split
  · rfl
  split <;> rfl
theorem Ar.pushR_T (A : Ar) (m : Nat) (v : Rf) : (A.pushR m v).A.H.T = A.H.T := by
  unfold Ar.pushR
  split <;> rfl
theorem Ar.getR_T (A : Ar) (m k : Int) : (A.getR m k).A.H.T = A.H.T := by
  unfold Ar.getR
  split
  · rfl
  split
  · rfl
  split
  · rfl
  · exact Ar.pushR_T _ _ _
theorem Ar.loadR_T (A : Ar) (m i f : Int) : (A.loadR m i f).A.H.T = A.H.T := by
  unfold Ar.loadR
  split
  · rfl
  split
  · rfl
  split
  · rfl
  split
  · rfl
  · exact Ar.pushR_T _ _ _
theorem Mk.wroteR_off {M : Mk} (h : M.K.ph = 5) (i : Int) (r q : Rf) : (M.wroteR i r q).1 = M := by
  unfold Mk.wroteR
  split
  · rfl
  split
  · rfl
  split
  · rename_i hb
    unfold Ck.bar at hb
    rw [if_neg (by omega)] at hb
    simp at hb
    omega
  · rfl
structure Tame (s t : Sys) : Prop where
  tb : ∀ j, t.A.H.T.gn j = s.A.H.T.gn j ∧ (t.A.H.T.st j = s.A.H.T.st j ∨ (s.A.H.T.st j = 0 ∧ t.A.H.T.st j = 1 ∧ t.M.P.c j ≠ 0))
  c : ∀ j, t.M.P.c j = s.M.P.c j ∨ (s.A.H.T.st j = 0 ∧ t.M.P.c j = 2)
theorem Tame.of {s t : Sys} (h1 : t.A.H.T = s.A.H.T) (h2 : t.M = s.M) : Tame s t :=
  ⟨fun j => by rw [h1]; exact ⟨rfl, .inl rfl⟩, fun j => by rw [h2]; exact .inl rfl⟩
theorem Tame.told {s : Sys} {R : Res} (h1 : R.A.H.T = s.A.H.T) (hp : s.M.K.ph = 5) (k : Int) : Tame s (Sys.told R s k) := by
  refine Tame.of h1 ?_
  unfold Sys.told
  dsimp only
  split
  · exact Mk.wroteR_off hp _ _ _
  · rfl
def Sys.un (s : Sys) (k : Nat) : List Rf := ((s.A.H.T.inn 1 k).map rfOf).filter (fun r => s.M.P.c r.s.toNat == 0)
def Sys.wh (s : Sys) (j : Nat) : Prop := s.A.H.T.st j = 1 ∧ s.M.P.c j = 0
theorem Sys.un_yes {s : Sys} {k : Nat} (h : s.wh k) : s.un (k + 1) = s.un k ++ [⟨k, s.A.H.T.gn k⟩] := by
  unfold Sys.un
  rw [Tb.inn_yes h.1, List.map_append, List.filter_append]
  congr 1
  have : (rfOf (k, s.A.H.T.gn k)).s.toNat = k := Int.toNat_natCast k
  simp only [List.map_cons, List.map_nil, List.filter_cons, List.filter_nil, this, h.2]
  rfl
theorem Sys.un_no {s : Sys} {k : Nat} (h : ¬ s.wh k) : s.un (k + 1) = s.un k := by
  unfold Sys.un
  by_cases h1 : s.A.H.T.st k = 1
  · have h2 : s.M.P.c k ≠ 0 := fun h2 => h ⟨h1, h2⟩
    rw [Tb.inn_yes h1, List.map_append, List.filter_append]
    have : (rfOf (k, s.A.H.T.gn k)).s.toNat = k := Int.toNat_natCast k
    simp only [List.map_cons, List.map_nil, List.filter_cons, List.filter_nil, this]
    rw [show (s.M.P.c k == 0) = false by simpa using h2]
    simp
  · rw [Tb.inn_no h1]
theorem Sys.un_mem {s : Sys} {k : Nat} {r : Rf} (h : r ∈ s.un k) : ∃ j : Nat, j < k ∧ s.wh j ∧ r = ⟨j, s.A.H.T.gn j⟩ := by
  unfold Sys.un at h
  obtain ⟨h1, h2⟩ := List.mem_filter.1 h
  obtain ⟨⟨j, g⟩, h3, rfl⟩ := List.mem_map.1 h1
  obtain ⟨h4, h5, h6⟩ := Tb.inn_mem h3
  have : (rfOf (j, g)).s.toNat = j := Int.toNat_natCast j
  rw [this] at h2
  exact ⟨j, h6, ⟨h4, by simpa using h2⟩, by show (⟨j, g⟩ : Rf) = _; rw [h5]⟩
structure Kp (s0 : Sys) (n i : Nat) (s : Sys) (S : Sw) (freed : List Rf) : Prop where
  ok : s.Ok
  safe : Safe s
  ph : s.M.K.ph = 5
  nn : s.M.P.n = n
  S : S = ⟨n, i, freed.length⟩
  fr : freed = s0.un i
  yet : ∀ j, i ≤ j → s0.wh j → s.wh j ∧ s.A.H.T.gn j = s0.A.H.T.gn j
  all : ∀ j, i ≤ j → s.wh j → s0.wh j
  gone : ∀ j, j < i → s0.wh j → s.A.H.T.gn j ≠ s0.A.H.T.gn j ∨ s.A.H.T.st j = 2
theorem Kp.zero {s : Sys} {n : Nat} (h1 : s.Ok) (h2 : Safe s) (h3 : s.M.K.ph = 5) (h4 : s.M.P.n = n) : Kp s n 0 s ⟨n, 0, 0⟩ [] :=
  ⟨h1, h2, h3, h4, rfl, rfl, fun _ _ h => ⟨h, rfl⟩, fun _ _ h => h, fun _ h => absurd h (Nat.not_lt_zero _)⟩
theorem Kp.chk {s0 s : Sys} {n i : Nat} {S : Sw} {fr : List Rf} (h : Kp s0 n i s S fr) (hi : i < n) : S.chk s.A s.M = 0 := by
  have := h.ok.n; have := h.nn
  rw [h.S]
  unfold Sw.chk
  rw [if_neg (by dsimp only; omega), if_neg (by have := h.ph; dsimp only; omega)]
theorem tk_give {T : Tb} {i : Nat} (hi : T.st i = 1) : (T.give i).tk = T.tk.filter (fun r => !decide (r = ⟨i, T.gn i⟩)) := by
  have hn : (T.give i).n = T.n := Tb.give_n T i
  have hst : ∀ j, (T.give i).st j = if j = i then (if T.gn i < 4294967295 then 0 else 2) else T.st j := fun j => by
    unfold Tb.give
    split
    · rfl
    · rfl
  have hgn : ∀ j, j ≠ i → (T.give i).gn j = T.gn j := fun j hj => by
    unfold Tb.give
    split
    · exact if_neg hj
    · exact if_neg hj
  unfold Tb.tk
  rw [hn]
  induction T.n with
  | zero => rfl
  | succ k ih =>
    by_cases e : k = i
    · subst e
      rw [Tb.inn_no (T := T.give k) (by rw [hst, if_pos rfl]; split <;> decide), Tb.inn_yes hi, ih, List.map_append, List.filter_append]
      simp [rfOf]
    · by_cases h1 : T.st k = 1
      · rw [Tb.inn_yes (T := T.give i) (by rw [hst, if_neg e]; exact h1), Tb.inn_yes h1, List.map_append, List.map_append, List.filter_append, ih, hgn k e]
        congr 1
        have : ¬ ((k : Int) = i) := by omega
        simp [rfOf, this]
      · rw [Tb.inn_no (T := T.give i) (by rw [hst, if_neg e]; exact h1), Tb.inn_no h1, ih]
theorem Kp.step {s0 s : Sys} {n i : Nat} {S : Sw} {fr : List Rf} (h : Kp s0 n i s S fr) (hi : i < n) :
    Kp s0 n (i + 1) (S.stepR s).s (S.stepR s).S (if (S.stepR s).is = true then fr ++ [(S.stepR s).r] else fr) ∧ ((S.stepR s).is = true → (S.stepR s).r.nz = true) ∧ ((S.stepR s).is = false → (S.stepR s).r = .no)
      ∧ (S.stepR s).s.A.H.T.tk = (if (S.stepR s).is = true then s.A.H.T.tk.filter (fun r => !decide (r = (S.stepR s).r)) else s.A.H.T.tk) ∧ (S.stepR s).S.n = fr.length + (if (S.stepR s).is = true then 1 else 0) ∧ (S.stepR s).s.A.many = s.A.many ∧ (S.stepR s).s.M.K = s.M.K ∧ ((S.stepR s).is = true → (S.stepR s).r ∈ s.A.H.T.tk) := by
  have hnn := h.nn
  have hin : i < s.A.H.T.n := by rw [h.ok.n]; omega
  have hS := h.S
  by_cases hw : s.wh i
  · obtain ⟨w1, w2⟩ := id hw
    have e : S.stepR s = ⟨⟨n, i + 1, fr.length + 1⟩, s.free i, ⟨i, s.A.H.T.gn i⟩, true⟩ := by
      rw [hS]; unfold Sw.stepR; rw [if_neg (by rintro (h | h); exact h w2; exact h w1)]
    rw [e]
    have hck : ckV s.A.H.T (i : Int) (s.A.H.T.gn i) = 0 := ckV_tk hin w1
    have hfr : (s.free i).A.H = s.A.H.free i := by
      show (s.A.H.freeR ⟨i, s.A.H.T.gn i⟩).1 = _
      unfold Hp.freeR
      rw [if_neg (by show ¬ ckV s.A.H.T (i : Int) (s.A.H.T.gn i) ≠ 0; rw [hck]; exact fun h => h rfl)]
      show s.A.H.free (i : Int).toNat = _
      rw [Int.toNat_natCast]
    have hst : ∀ j, (s.free i).A.H.T.st j = if j = i then (if s.A.H.T.gn i < 4294967295 then 0 else 2) else s.A.H.T.st j := fun j => by
      rw [hfr]; show (s.A.H.T.give i).st j = _
      unfold Tb.give
      split <;> rfl
    have hgn : ∀ j, (s.free i).A.H.T.gn j = if j = i then (if s.A.H.T.gn i < 4294967295 then s.A.H.T.gn i + 1 else s.A.H.T.gn i) else s.A.H.T.gn j := fun j => by
      rw [hfr]; show (s.A.H.T.give i).gn j = _
      unfold Tb.give
      split <;> rfl
    have hM := Sys.free_M (s := s) (i := i) (by omega)
    have hMe : (s.free i).M = s.M := by
      rw [hM]
      have : s.M.P.put i 0 = s.M.P := by
        unfold Pt.put
        have : updf s.M.P.c i 0 = s.M.P.c := by
          funext j
          by_cases ej : j = i
          · subst ej; rw [updf_same, w2]
          · rw [updf_ne _ _ ej]
        rw [this]
      rw [this]
    have w0 := h.all i (Nat.le_refl _) hw
    obtain ⟨_, w0g⟩ := h.yet i (Nat.le_refl _) w0
    have hsf : Safe (s.free i) := by
      have := (safe_free (A' := (s.free i).A) h.safe (by have := h.ph; omega) w2 (Ar.freeR_n _ _).2 rfl rfl (fun j hj => by rw [hfr]; exact updf_ne _ _ hj) (by rw [hfr]; exact Tb.give_n _ _) (fun j hj => by rw [hst, if_neg hj]) (fun j hj => by rw [hgn, if_neg hj]) (by rw [hst, if_pos rfl]; split <;> decide)).1
      have e2 : s.free i = ⟨(s.free i).A, s.M⟩ := by
        conv => lhs; rw [show s.free i = ⟨(s.free i).A, (s.free i).M⟩ from rfl, hMe]
      rw [e2]; exact this
    refine ⟨⟨h.ok.free (by omega) w2, hsf, by rw [hMe]; exact h.ph, by rw [hMe]; exact hnn, by simp, ?_, fun j hj hw0 => ?_, fun j hj hwj => ?_, fun j hj hw0 => ?_⟩, fun _ => ?_, fun hx => by simp at hx, ?_, by simp, (Ar.freeR_n _ _).2, by rw [hMe], fun _ => tk_mem hin w1⟩
    · rw [if_pos rfl, Sys.un_yes w0, ← h.fr, w0g]
    · obtain ⟨⟨y1, y2⟩, y3⟩ := h.yet j (by omega) hw0
      refine ⟨⟨?_, by rw [hMe]; exact y2⟩, ?_⟩
      · rw [hst, if_neg (by omega)]; exact y1
      · rw [hgn, if_neg (by omega)]; exact y3
    · obtain ⟨y1, y2⟩ := hwj
      rw [hst, if_neg (by omega)] at y1
      rw [hMe] at y2
      exact h.all j (by omega) ⟨y1, y2⟩
    · by_cases ej : j = i
      · subst ej
        rw [hgn, hst, if_pos rfl, if_pos rfl]
        split
        · left; omega
        · exact .inr rfl
      · rw [hgn, hst, if_neg ej, if_neg ej]
        exact h.gone j (by omega) hw0
    · simp only [Rf.nz, Bool.not_eq_true', Bool.and_eq_false_iff, beq_eq_false_iff_ne]
      right
      have := (h.ok.a.tb i hin).1
      omega
    · rw [if_pos rfl, hfr]
      exact tk_give w1
  · have e : S.stepR s = ⟨⟨n, i + 1, fr.length⟩, s, .no, false⟩ := by
      rw [hS]; unfold Sw.stepR
      rw [if_pos (by
        by_cases h1 : s.A.H.T.st i = 1
        · exact .inl (fun h2 => hw ⟨h1, h2⟩)
        · exact .inr h1)]
    rw [e]
    have w0 : ¬ s0.wh i := fun h0 => hw (h.yet i (Nat.le_refl _) h0).1
    refine ⟨⟨h.ok, h.safe, h.ph, hnn, rfl, ?_, fun j hj => h.yet j (by omega), fun j hj => h.all j (by omega), fun j hj hw0 => ?_⟩, fun hx => by simp at hx, fun _ => rfl, rfl, rfl, rfl, rfl, fun hx => by simp at hx⟩
    · rw [if_neg (fun h => by cases h), Sys.un_no w0]; exact h.fr
    · have : j ≠ i := fun e => w0 (e ▸ hw0)
      exact h.gone j (by omega) hw0
theorem Kp.done {s0 s : Sys} {n : Nat} {S : Sw} {fr : List Rf} (h : Kp s0 n n s S fr) {r : Rf} (hr : r ∈ s.A.H.T.tk) : r ∉ s0.un n := by
  intro hu
  obtain ⟨j, h1, h2, rfl⟩ := Sys.un_mem hu
  obtain ⟨i, e1, e2, e3, e4⟩ := tk_of hr
  dsimp only at e1 e4
  have : j = i := by omega
  subst this
  rcases h.gone j h1 h2 with h3 | h3
  · exact h3 e4
  · rw [e3] at h3; cases h3
end Go.Proofs.YtnjgkhgdgpahfaaGreat

/- estraylaw25: there, reached. -/
namespace Go.Proofs.YtnjgkhgdgpahfaaGreat
open Go.RowKit
set_option linter.unusedVariables false
set_option linter.unusedSimpArgs false

def NMap (w : World) (b n : Nat) : Prop := ∃ D, w.ownsMap (H := Unit) Tryz.prog 39 (plainElem Tryz.prog 3) b n D
theorem NMap.keeps {w w' : World} {b n : Nat} {S : Nat → Prop} (h : NMap w b n) (hk : Keeps S w w') (hS : ¬ S b) : NMap w' b n := by
  obtain ⟨D, es, clock, h1, h2⟩ := h
  exact ⟨D, es, clock, block_keep h1 hk hS, h2⟩
theorem NMap.made (w : World) : NMap (w.alloc (.map #[] 0)) w.heap.size 0 := ⟨_, World.ownsMap_made _ _ _ _⟩
end Go.Proofs.YtnjgkhgdgpahfaaGreat

/- estraylaw25: reached. -/
namespace Go.Proofs.YtnjgkhgdgpahfaaGreat
open Go.RowKit
set_option linter.unusedVariables false
set_option linter.unusedSimpArgs false

theorem Rf.Ok.key {r : Rf} (h : r.Ok) : ∃ kl, keyOf Tryz.prog 39 (.agg #[.int .i64 r.s, .int .u32 r.g]) = some kl := by
  obtain ⟨h0, h1, h2, h3⟩ := h
  have e1 : IntKind.i64.min = -9223372036854775808 := by decide
  have e2 : IntKind.i64.max = 9223372036854775807 := by decide
  have e3 : IntKind.u32.min = 0 := by decide
  have e4 : IntKind.u32.max = 4294967295 := by decide
  exact ref_key (by simp [Lit.wf, e1, e2]; omega) (by simp [Lit.wf, e3, e4]; omega)
theorem refs_one {w : World} {b : Nat} {x : Rf} (h : w.heap[b]? = some (.cells #[.int .i64 x.s, .int .u32 x.g] 39)) : Refs w (.slice (some ⟨b, 0, none⟩) 1 1) [x] :=
  .inr ⟨b, 1, _, rfl, h, fun j r hj => by
    match j, hj with
    | 0, hj => obtain rfl : x = r := Option.some.inj hj; exact ⟨rfl, rfl⟩⟩
end Go.Proofs.YtnjgkhgdgpahfaaGreat

/- slices.Contains of names. -/
namespace Go.Proofs.YtnjgkhgdgpahfaaGreat
open Go.RowKit
set_option linter.unusedVariables false

end Go.Proofs.YtnjgkhgdgpahfaaGreat

/- estraylaw25: a row's first cells; names beside a system. -/
namespace Go.Proofs.YtnjgkhgdgpahfaaGreat
open Go.RowKit
set_option linter.unusedVariables false

theorem Trio.farN {w0 w W w' : World} {a m b : Nat} {LA : ArL} {LM : MkL} {s t : Sys} {S T : Sw} (h : Trio w0 w a m b LA LM s S) (hW : Trio w0 W a m b LA LM t T) (h3 : t.A.many = s.A.many) (h4 : t.M.K.many = s.M.K.many) (hk : Keeps (fun y => w.heap.size ≤ y) W w') : Trio w0 w' a m b LA LM t T :=
  ⟨Both.far h.both hW.both h3 h4 hk, hW.sw.keeps hk (by have := lt_block h.sw.own; omega), h.hb⟩
theorem Trio.row {w0 w w' : World} {a m b base : Nat} {LA : ArL} {LM : MkL} {s : Sys} {S : Sw} (h : Trio w0 w a m b LA LM s S) {v : Value} {l : List Rf} (hv : Row w base v l) (hk : Keeps (fun y => y = b ∨ foot2 LA LM s y) w w') : Row w' base v l := by
  refine hv.keeps hk (fun k _ _ hk' => ?_)
  rcases hv.2 with ⟨rfl, _⟩ | ⟨g, cap, cur, rfl, _, hg, _⟩
  · cases hk'
  · obtain rfl : g = k := Option.some.inj hk'
    exact h.noref hg
end Go.Proofs.YtnjgkhgdgpahfaaGreat
