/- estrayref19: Depth; what its functions answer at no arena; New with any first generation. -/
import Derived.Test.YtkpnmajocgcccaaGreatRgN
import Derived.Test.YtkpnmajocgcccaaGreatRgG
namespace Go.Proofs.YtkpnmajocgcccaaGreat
open Go.RowKit
set_option linter.unusedVariables false
set_option linter.unusedSimpArgs false

theorem wayL_pos {A : Ar} {r : Rf} (hr : r ∈ A.rq.keys) : 1 ≤ (A.wayL r).length := by
  obtain ⟨u, hu⟩ := Wy.of_key (rq_exp A) hr
  unfold Ar.wayL
  rw [wayQ_of (rq_exp A) hr hu, List.length_reverse]
  cases hu <;> simp
section
variable {w w' : World} {x N : Nat} {L : L18} {A A' : Ar}
set_option maxRecDepth 100000 in
theorem depth19 (r : Rf) (h : R18 w x L A) :
    Calls Tryz.prog 27 #[.pointer (some ⟨x, 0, none⟩), .agg #[.int .i64 r.s, .int .u32 r.g]] w fun e w' => e = .returned (.tuple #[.int .i64 ((A.wayL r).length - 1 : Nat), .bool (decide (r ∈ A.rq.keys)), .int .i64 (ckV A.H.T r.s r.g)]) ∧ Keeps (fun _ => False) w w' := by
  have HP := hid (fun W (hk : Keeps (fun _ => False) w W) => path19 r (h.k0 hk))
  have hwl := wayQ_len (A := A) (r := r)
  have hn256 := h.ok.n2
  have hno : r ∉ A.rq.keys → (A.wayL r).length = 0 := fun hr => by unfold Ar.wayL wayQ; rw [if_neg hr]; rfl
  have hyes : r ∈ A.rq.keys → 1 ≤ (A.wayL r).length ∧ ckV A.H.T r.s r.g = 0 := fun hr => ⟨wayL_pos hr, rq_there hr⟩
  by_cases hm : r ∈ A.rq.keys
  · obtain ⟨h1, h0⟩ := hyes hm
    rw [decide_eq_true hm, h0] at HP ⊢
    obtain ⟨wl, hwl2⟩ : ∃ wl, A.wayL r = wl := ⟨_, rfl⟩
    rw [hwl2] at HP hwl h1 ⊢
    clear h hno hyes hm h0 hwl2
    obtain ⟨n, hn⟩ : ∃ n, wl.length = n := ⟨_, rfl⟩
    rw [hn] at hwl h1 ⊢
    obtain ⟨D, hD⟩ : ∃ D : Int, ((n - 1 : Nat) : Int) = D := ⟨_, rfl⟩
    rw [hD]
    have hmx : (n : Int) - 1 = D := by omega
    have hw : IntKind.i64.wrap ((n : Int) - 1) = D := by rw [hmx]; exact IntWalk.i64_in _ (by omega)
    go_enter Tryz.func27, Tryz.ntmps27
    go_wp2_with fail
    refine (HP.out _ ((Keeps.refl _ _).alloc _)).mono ?_
    rintro e w1 ⟨v, rfl, hr, k1⟩
    obtain ⟨p, c, rfl⟩ := hr.refs.slice
    rw [hn]
    have K := hid (((Keeps.refl (fun _ => False) w).alloc (.cells #[.int .i64 r.s, .int .u32 r.g] 41)).trans k1)
    clear hr k1 hD hmx
    go_wp2_with fail
    go_ret3
    exact ⟨rfl, K.out⟩
  · have h0 := hno hm
    rw [decide_eq_false hm] at HP ⊢
    rw [h0]
    obtain ⟨E, hE⟩ : ∃ E, ckV A.H.T r.s r.g = E := ⟨_, rfl⟩
    rw [hE] at HP ⊢
    clear h hno hyes hm hE h0 hwl
    by_cases h0 : E = 0
    all_goals
      first
        | subst h0
        | have hne : (E != 0) = true := by simpa using h0
      go_enter Tryz.func27, Tryz.ntmps27
      go_wp2_with fail
      refine (HP.out _ ((Keeps.refl _ _).alloc _)).mono ?_
      rintro e w1 ⟨v, rfl, hr, k1⟩
      have K := hid (((Keeps.refl (fun _ => False) w).alloc (.cells #[.int .i64 r.s, .int .u32 r.g] 41)).trans k1)
      clear hr k1
      go_wp2_with fail
      go_ret3
      exact ⟨rfl, K.out⟩
theorem all19_no (w : World) : Calls Tryz.prog 18 #[.pointer none] w fun e w' => e = .returned (.tuple #[.slice none 0 0, .int .i64 1]) ∧ Keeps (fun _ => False) w w' := by
  go_enter Tryz.func18, Tryz.ntmps18
  go_wp2_with fail
  go_ret2
  exact ⟨rfl, Keeps.refl _ _⟩
theorem lost19_no (w : World) : Calls Tryz.prog 20 #[.pointer none] w fun e w' => e = .returned (.tuple #[.slice none 0 0, .int .i64 1]) ∧ Keeps (fun _ => False) w w' := by
  have HA := hid (fun W => all19_no W)
  go_enter Tryz.func20, Tryz.ntmps20
  go_wp2_with fail
  refine (HA.out _).mono ?_
  rintro e w1 ⟨rfl, k1⟩
  have K := hid k1
  clear k1
  go_wp2_with fail
  go_ret2
  exact ⟨rfl, K.out⟩
theorem is19_no (s g : Int) (w : World) : Calls Tryz.prog 23 #[.pointer none, .agg #[.int .i64 s, .int .u32 g]] w fun e w' => e = .returned (.tuple #[.bool false, .int .i64 1]) ∧ Keeps (fun _ => False) w w' := by
  have HA := hid (fun W => all19_no W)
  go_enter Tryz.func23, Tryz.ntmps23
  go_wp2_with fail
  refine (HA.out _).mono ?_
  rintro e w1 ⟨rfl, k1⟩
  have K := hid (((Keeps.refl (fun _ => False) w).alloc (.cells #[.int .i64 s, .int .u32 g] 41)).trans k1)
  clear k1
  go_wp2_with fail
  go_ret2
  exact ⟨rfl, K.out⟩
theorem path19_no (s g : Int) (w : World) : Calls Tryz.prog 25 #[.pointer none, .agg #[.int .i64 s, .int .u32 g]] w fun e w' => e = .returned (.tuple #[.slice none 0 0, .bool false, .int .i64 1]) ∧ Keeps (fun _ => False) w w' := by
  have HA := hid (fun W => is19_no s g W)
  go_enter Tryz.func25, Tryz.ntmps25
  go_wp2_with fail
  refine (HA.out _).mono ?_
  rintro e w1 ⟨rfl, k1⟩
  have K := hid (((Keeps.refl (fun _ => False) w).alloc (.cells #[.int .i64 s, .int .u32 g] 41)).trans k1)
  clear k1
  go_wp2_with fail
  go_ret3
  exact ⟨rfl, K.out⟩
theorem depth19_no (s g : Int) (w : World) : Calls Tryz.prog 27 #[.pointer none, .agg #[.int .i64 s, .int .u32 g]] w fun e w' => e = .returned (.tuple #[.int .i64 0, .bool false, .int .i64 1]) ∧ Keeps (fun _ => False) w w' := by
  have HA := hid (fun W => path19_no s g W)
  go_enter Tryz.func27, Tryz.ntmps27
  go_wp2_with fail
  refine (HA.out _).mono ?_
  rintro e w1 ⟨rfl, k1⟩
  have K := hid (((Keeps.refl (fun _ => False) w).alloc (.cells #[.int .i64 s, .int .u32 g] 41)).trans k1)
  clear k1
  go_wp2_with fail
  go_ret3
  exact ⟨rfl, K.out⟩
theorem Ay.newg (n k : Nat) (g : Int) (w : World) (n1 : 1 ≤ n) (n2 : n ≤ 256) (k1 : 1 ≤ k) (k4 : k ≤ 4) (g1 : 1 ≤ g) (g2 : g ≤ 4294967295) :
    Calls Tryz.prog 6 #[.int .i64 n, .int .i64 k, .int .u32 g] w fun e w' => ∃ a L, e = .returned (.tuple #[.pointer (some ⟨a, 0, none⟩), .int .i64 0]) ∧ Ay w.heap.size w w' a L (Ar.new n k g) := by
  refine (anew_ok n k g w (by omega) (by omega) k1 k4 g1 g2).mono ?_
  rintro e w' ⟨a, rfl, hk, L, h1, h2⟩
  rw [Int.toNat_natCast] at h1 h2
  refine ⟨a, L, rfl, h1, Ar.Ok.new n1 n2 k1 k4 g1 g2, fun y hy => ?_, hk.up⟩
  rcases hy with rfl | rfl | rfl | ⟨j, hj, rfl⟩
  · exact h2.b.1
  · exact h2.t.1
  · exact h2.g.1
  · exact (h2.ss j hj).1
theorem run_clear_row {w : World} {base : Nat} {v : Value} {l : List Rf} (h : Row w base v l) :
    ∃ W, (∀ ty, Sem.run Tryz.prog (Builtin.clear_ #[23] ty #[v]) w = .ok (.tuple #[]) W) ∧ Keeps (fun k => v.ownBlock = some k) w W := by
  rcases h.2 with ⟨rfl, _⟩ | ⟨g, cap, cur, rfl, hb, hg, hn, hm, hs, _⟩
  · refine ⟨w, fun ty => ?_, Keeps.refl _ _⟩
    simp [Builtin.clear_, run_underlying Tryz.underlying23]
  · by_cases h0 : l.length = 0
    · refine ⟨w, fun ty => ?_, Keeps.refl _ _⟩
      rw [h0]
      simp [Builtin.clear_, run_underlying Tryz.underlying23]
    · have hin : ∀ j, j < l.length * 2 → 0 + j < cur.size := fun j hj => by rw [hs]; omega
      obtain ⟨vs, _, hcl⟩ := run_clear_refs w g 0 l.length cap (by omega) (fun j hj => by rw [cell_block hg, Array.getElem?_eq_getElem (hin j hj)]; rfl) (fun j _ => frozen_block hg _)
      exact ⟨_, hcl, (setCells_keeps g vs 0 w).mono (fun y _ e => by rw [e]; rfl)⟩
theorem row_three {w : World} {base B : Nat} {a b c : Rf} (h : w.heap[B]? = some (.cells #[.int .i64 a.s, .int .u32 a.g, .int .i64 b.s, .int .u32 b.g, .int .i64 c.s, .int .u32 c.g] 41)) (hb : base ≤ B) : Row w base (.slice (some ⟨B, 0, none⟩) 3 3) [a, b, c] :=
  ⟨rfl, .inr ⟨B, 3, _, rfl, hb, h, by simp, by simp [maxLen], by simp, by simp [encR]⟩⟩
end

/-! both arenas, or none -/
def oAll : Option Ar → List Rf
  | none => []
  | some A => srt A.rq.keys
def oLost : Option Ar → List Rf
  | none => []
  | some A => A.lostL
def oEr : Option Ar → Int
  | none => 1
  | some _ => 0
def oIs (O : Option Ar) (r : Rf) : Bool := match O with
  | none => false
  | some A => decide (r ∈ A.rq.keys)
def oCk (O : Option Ar) (r : Rf) : Int := match O with
  | none => 1
  | some A => ckV A.H.T r.s r.g
def oWay (O : Option Ar) (r : Rf) : List Rf := match O with
  | none => []
  | some A => A.wayL r
def oDep (O : Option Ar) (r : Rf) : Int := match O with
  | none => 0
  | some A => ((A.wayL r).length - 1 : Nat)
def Bo (N : Nat) (w0 w : World) (pa pr : Value) (O : Option Ar) : Prop := match O with
  | none => pa = .pointer none ∧ pr = .pointer none ∧ Keeps (fun y => N ≤ y) w0 w
  | some A => ∃ a LA x, pa = .pointer (some ⟨a, 0, none⟩) ∧ pr = .pointer (some ⟨x, 0, none⟩) ∧ Pr N w0 w a LA x A A
section
variable {N : Nat} {w0 w w' : World} {pa pr : Value} {O : Option Ar}
theorem Bo.quiet (h : Bo N w0 w pa pr O) (hk : Keeps (fun _ => False) w w') : Bo N w0 w' pa pr O := by
  rcases O with _ | A
  · obtain ⟨h1, h2, h3⟩ := h; exact ⟨h1, h2, h3.trans hk.up⟩
  · obtain ⟨a, LA, x, h1, h2, h3⟩ := h; exact ⟨a, LA, x, h1, h2, h3.quiet hk⟩
theorem Bo.k (h : Bo N w0 w pa pr O) : Keeps (fun y => N ≤ y) w0 w := by
  rcases O with _ | A
  · exact h.2.2
  · obtain ⟨a, LA, x, h1, h2, h3⟩ := h; exact h3.ay.k
theorem Bo.len (h : Bo N w0 w pa pr O) : (oAll O).length ≤ 65536 ∧ (oLost O).length ≤ 65536 ∧ ∀ r, (oWay O r).length ≤ 65536 := by
  rcases O with _ | A
  · exact ⟨by simp [oAll], by simp [oLost], fun r => by simp [oWay]⟩
  · obtain ⟨a, LA, x, h1, h2, h3⟩ := h
    have hn := h3.ay.ok.n2
    have h4 := rq_len A
    have h5 : A.lostL.length ≤ A.H.T.n := by unfold Ar.lostL; exact Nat.le_trans (List.length_filter_le _ _) (by unfold Tb.tk; rw [List.length_map]; exact Tb.inn_len _ _ _)
    have h6 := fun r => wayQ_len (A := A) (r := r)
    exact ⟨by show (srt A.rq.keys).length ≤ _; rw [(srt_perm _).length_eq]; omega, by show A.lostL.length ≤ _; omega, fun r => by show (A.wayL r).length ≤ _; have := h6 r; omega⟩
theorem Bo.pall (h : Bo N w0 w pa pr O) : Calls Tryz.prog 17 #[pa] w fun e w' => ∃ v, e = .returned (.tuple #[v, .int .i64 (oEr O)]) ∧ Row w' w.heap.size v (oAll O) ∧ Keeps (fun _ => False) w w' := by
  rcases O with _ | A
  · obtain ⟨rfl, rfl, _⟩ := h
    exact (all_no _ w (.inl rfl)).mono fun e w' ⟨h1, h2⟩ => ⟨_, h1, Row.nil _ _, h2⟩
  · obtain ⟨a, LA, x, rfl, rfl, h⟩ := h
    exact all_ok a LA A w h.ay.ar h.ay.ok
theorem Bo.dall (h : Bo N w0 w pa pr O) : Calls Tryz.prog 18 #[pr] w fun e w' => ∃ v, e = .returned (.tuple #[v, .int .i64 (oEr O)]) ∧ Row w' w.heap.size v (oAll O) ∧ Keeps (fun _ => False) w w' := by
  rcases O with _ | A
  · obtain ⟨rfl, rfl, _⟩ := h
    exact (all19_no w).mono fun e w' ⟨h1, h2⟩ => ⟨_, h1, Row.nil _ _, h2⟩
  · obtain ⟨a, LA, x, rfl, rfl, h⟩ := h
    obtain ⟨LR, _, hR⟩ := h.doc
    exact all19 hR
theorem Bo.plost (h : Bo N w0 w pa pr O) : Calls Tryz.prog 19 #[pa] w fun e w' => ∃ v, e = .returned (.tuple #[v, .int .i64 (oEr O)]) ∧ Row w' w.heap.size v (oLost O) ∧ Keeps (fun _ => False) w w' := by
  rcases O with _ | A
  · obtain ⟨rfl, rfl, _⟩ := h
    exact (lost_no _ w (.inl rfl)).mono fun e w' ⟨h1, h2⟩ => ⟨_, h1, Row.nil _ _, h2⟩
  · obtain ⟨a, LA, x, rfl, rfl, h⟩ := h
    exact lost_ok a LA A w h.ay.ar h.ay.ok
theorem Bo.dlost (h : Bo N w0 w pa pr O) : Calls Tryz.prog 20 #[pr] w fun e w' => ∃ v, e = .returned (.tuple #[v, .int .i64 (oEr O)]) ∧ Row w' w.heap.size v (oLost O) ∧ Keeps (fun _ => False) w w' := by
  rcases O with _ | A
  · obtain ⟨rfl, rfl, _⟩ := h
    exact (lost19_no w).mono fun e w' ⟨h1, h2⟩ => ⟨_, h1, Row.nil _ _, h2⟩
  · obtain ⟨a, LA, x, rfl, rfl, h⟩ := h
    obtain ⟨LR, _, hR⟩ := h.doc
    exact lost19 hR
theorem Bo.pis (h : Bo N w0 w pa pr O) (r : Rf) (hw : r.Wf) : Calls Tryz.prog 22 #[pa, .agg #[.int .i64 r.s, .int .u32 r.g]] w fun e w' => e = .returned (.tuple #[.bool (oIs O r), .int .i64 (oCk O r)]) ∧ Keeps (fun _ => False) w w' := by
  rcases O with _ | A
  · obtain ⟨rfl, rfl, _⟩ := h
    exact is_no _ r.s r.g w (.inl rfl)
  · obtain ⟨a, LA, x, rfl, rfl, h⟩ := h
    exact is_ok a LA A r w h.ay.ar h.ay.ok hw
theorem Bo.dis (h : Bo N w0 w pa pr O) (r : Rf) : Calls Tryz.prog 23 #[pr, .agg #[.int .i64 r.s, .int .u32 r.g]] w fun e w' => e = .returned (.tuple #[.bool (oIs O r), .int .i64 (oCk O r)]) ∧ Keeps (fun _ => False) w w' := by
  rcases O with _ | A
  · obtain ⟨rfl, rfl, _⟩ := h
    exact is19_no r.s r.g w
  · obtain ⟨a, LA, x, rfl, rfl, h⟩ := h
    obtain ⟨LR, _, hR⟩ := h.doc
    exact is19 r hR
theorem Bo.ppath (h : Bo N w0 w pa pr O) (r : Rf) (hw : r.Wf) : Calls Tryz.prog 24 #[pa, .agg #[.int .i64 r.s, .int .u32 r.g]] w fun e w' => ∃ v, e = .returned (.tuple #[v, .bool (oIs O r), .int .i64 (oCk O r)]) ∧ Row w' w.heap.size v (oWay O r) ∧ Keeps (fun _ => False) w w' := by
  rcases O with _ | A
  · obtain ⟨rfl, rfl, _⟩ := h
    exact (path_no _ r.s r.g w (.inl rfl)).mono fun e w' ⟨h1, h2⟩ => ⟨_, h1, Row.nil _ _, h2⟩
  · obtain ⟨a, LA, x, rfl, rfl, h⟩ := h
    exact path_ok a LA A r w h.ay.ar h.ay.ok hw
theorem Bo.dpath (h : Bo N w0 w pa pr O) (r : Rf) : Calls Tryz.prog 25 #[pr, .agg #[.int .i64 r.s, .int .u32 r.g]] w fun e w' => ∃ v, e = .returned (.tuple #[v, .bool (oIs O r), .int .i64 (oCk O r)]) ∧ Row w' w.heap.size v (oWay O r) ∧ Keeps (fun _ => False) w w' := by
  rcases O with _ | A
  · obtain ⟨rfl, rfl, _⟩ := h
    exact (path19_no r.s r.g w).mono fun e w' ⟨h1, h2⟩ => ⟨_, h1, Row.nil _ _, h2⟩
  · obtain ⟨a, LA, x, rfl, rfl, h⟩ := h
    obtain ⟨LR, _, hR⟩ := h.doc
    exact path19 r hR
theorem Bo.pdep (h : Bo N w0 w pa pr O) (r : Rf) (hw : r.Wf) : Calls Tryz.prog 26 #[pa, .agg #[.int .i64 r.s, .int .u32 r.g]] w fun e w' => e = .returned (.tuple #[.int .i64 (oDep O r), .bool (oIs O r), .int .i64 (oCk O r)]) ∧ Keeps (fun _ => False) w w' := by
  rcases O with _ | A
  · obtain ⟨rfl, rfl, _⟩ := h
    exact depth_no _ r.s r.g w (.inl rfl)
  · obtain ⟨a, LA, x, rfl, rfl, h⟩ := h
    exact depth_ok a LA A r w h.ay.ar h.ay.ok hw
theorem Bo.ddep (h : Bo N w0 w pa pr O) (r : Rf) : Calls Tryz.prog 27 #[pr, .agg #[.int .i64 r.s, .int .u32 r.g]] w fun e w' => e = .returned (.tuple #[.int .i64 (oDep O r), .bool (oIs O r), .int .i64 (oCk O r)]) ∧ Keeps (fun _ => False) w w' := by
  rcases O with _ | A
  · obtain ⟨rfl, rfl, _⟩ := h
    exact depth19_no r.s r.g w
  · obtain ⟨a, LA, x, rfl, rfl, h⟩ := h
    obtain ⟨LR, _, hR⟩ := h.doc
    exact depth19 r hR
end

end Go.Proofs.YtkpnmajocgcccaaGreat
