/- Package marker: markers that New did not make, and arenas that New did not make. -/
import Derived.Test.YtlgibhfeldlbiaaGreatMgO
import Derived.Test.YtlgibhfeldlbiaaGreatMgP
namespace Go.Proofs.YtlgibhfeldlbiaaGreat
open Go.RowKit

/-- no marker: nil, or one that New did not make -/
def NoM (w : World) (v : Value) : Prop := v = .pointer none ∨ ∃ b, v = .pointer (some ⟨b, 0, none⟩) ∧ w.heap[b]? = some (.cells #[.int .i64 0, .int .i64 0, .pointer none, .pointer none, .pointer none, .slice none 0 0] 263)
theorem NoM.keeps0 {w w' : World} {v : Value} (h : NoM w v) (hk : Keeps (fun _ => False) w w') : NoM w' v := by
  rcases h with h | ⟨b, h, hb⟩
  · exact .inl h
  · exact .inr ⟨b, h, block_keep hb hk (fun h => h)⟩

theorem mvalid_no (v : Value) (w : World) (h : NoM w v) : Calls Tryz.prog 212 #[v] w fun e w' => e = .returned (.bool false) ∧ w' = w := by
  rcases h with rfl | ⟨b, rfl, hb⟩
  · go_enter Tryz.func212, Tryz.ntmps212
    go_wp2
    go_ret
    exact ⟨rfl, rfl⟩
  · obtain ⟨c0, c1, c2, c3, c4, c5, cl⟩ := cells6 hb
    clear hb
    go_enter Tryz.func212, Tryz.ntmps212
    go_wp2
    go_ret
    exact ⟨rfl, rfl⟩

theorem nm_begin (v : Value) (w : World) (h : NoM w v) : Calls Tryz.prog 127 #[v] w fun e w' => e = .returned (.int .i64 1) ∧ w' = w := by
  have HV := hid (mvalid_no v w h)
  clear h
  go_enter Tryz.func127, Tryz.ntmps127
  go_wp2_with fail
  refine (HV.out).mono ?_
  rintro e w' ⟨rfl, h'⟩
  obtain rfl := h'.symm
  go_wp2_with fail
  go_ret
  exact ⟨rfl, rfl⟩

theorem nm_go (v : Value) (w : World) (h : NoM w v) : Calls Tryz.prog 134 #[v] w fun e w' => e = .returned (.int .i64 1) ∧ w' = w := by
  have HV := hid (mvalid_no v w h)
  clear h
  go_enter Tryz.func134, Tryz.ntmps134
  go_wp2_with fail
  refine (HV.out).mono ?_
  rintro e w' ⟨rfl, h'⟩
  obtain rfl := h'.symm
  go_wp2_with fail
  go_ret
  exact ⟨rfl, rfl⟩

theorem nm_phase (v : Value) (w : World) (h : NoM w v) : Calls Tryz.prog 70 #[v] w fun e w' => e = .returned (.int .i64 0) ∧ w' = w := by
  have HV := hid (mvalid_no v w h)
  clear h
  go_enter Tryz.func70, Tryz.ntmps70
  go_wp2_with fail
  refine (HV.out).mono ?_
  rintro e w' ⟨rfl, h'⟩
  obtain rfl := h'.symm
  go_wp2_with fail
  go_ret
  exact ⟨rfl, rfl⟩

theorem nm_ended (v : Value) (w : World) (h : NoM w v) : Calls Tryz.prog 124 #[v] w fun e w' => e = .returned (.bool false) ∧ w' = w := by
  have HV := hid (nm_phase v w h)
  clear h
  go_enter Tryz.func124, Tryz.ntmps124
  go_wp2_with fail
  refine (HV.out).mono ?_
  rintro e w' ⟨rfl, h'⟩
  obtain rfl := h'.symm
  go_wp2_with fail
  go_ret
  exact ⟨rfl, rfl⟩

theorem nm_cycles (v : Value) (w : World) (h : NoM w v) : Calls Tryz.prog 128 #[v] w fun e w' => e = .returned (.int .i64 0) ∧ w' = w := by
  have HV := hid (mvalid_no v w h)
  clear h
  go_enter Tryz.func128, Tryz.ntmps128
  go_wp2_with fail
  refine (HV.out).mono ?_
  rintro e w' ⟨rfl, h'⟩
  obtain rfl := h'.symm
  go_wp2_with fail
  go_ret
  exact ⟨rfl, rfl⟩

theorem nm_copy (v : Value) (w : World) (h : NoM w v) : Calls Tryz.prog 93 #[v] w fun e w' => e = .returned (.pointer none) ∧ w' = w := by
  have HV := hid (mvalid_no v w h)
  clear h
  go_enter Tryz.func93, Tryz.ntmps93
  go_wp2_with fail
  refine (HV.out).mono ?_
  rintro e w' ⟨rfl, h'⟩
  obtain rfl := h'.symm
  go_wp2_with fail
  go_ret
  exact ⟨rfl, rfl⟩

theorem nm_freed (v : Value) (s : Int) (w : World) (h : NoM w v) : Calls Tryz.prog 202 #[v, .int .i64 s] w fun e w' => e = .returned (.int .i64 1) ∧ w' = w := by
  have HV := hid (mvalid_no v w h)
  clear h
  go_enter Tryz.func202, Tryz.ntmps202
  go_wp2_with fail
  refine (HV.out).mono ?_
  rintro e w' ⟨rfl, h'⟩
  obtain rfl := h'.symm
  go_wp2_with fail
  go_ret
  exact ⟨rfl, rfl⟩

theorem nm_marked (v : Value) (s : Int) (w : World) (h : NoM w v) : Calls Tryz.prog 126 #[v, .int .i64 s] w fun e w' => e = .returned (.tuple #[.bool false, .int .i64 1]) ∧ w' = w := by
  have HV := hid (mvalid_no v w h)
  clear h
  go_enter Tryz.func126, Tryz.ntmps126
  go_wp2_with fail
  refine (HV.out).mono ?_
  rintro e w' ⟨rfl, h'⟩
  obtain rfl := h'.symm
  go_wp2_with fail
  go_ret2
  exact ⟨rfl, rfl⟩

theorem nm_check (v a : Value) (w : World) (h : NoM w v) : Calls Tryz.prog 214 #[v, a] w fun e w' => e = .returned (.int .i64 1) ∧ w' = w := by
  have HV := hid (mvalid_no v w h)
  clear h
  go_enter Tryz.func214, Tryz.ntmps214
  go_wp2_with fail
  refine (HV.out).mono ?_
  rintro e w' ⟨rfl, h'⟩
  obtain rfl := h'.symm
  go_wp2_with fail
  go_ret
  exact ⟨rfl, rfl⟩

theorem nm_ack (v a : Value) (s : Int) (w : World) (h : NoM w v) : Calls Tryz.prog 129 #[v, a, .int .i64 s] w fun e w' => e = .returned (.tuple #[.bool false, .int .i64 1]) ∧ w' = w := by
  have HV := hid (nm_check v a w h)
  clear h
  go_enter Tryz.func129, Tryz.ntmps129
  go_wp2_with fail
  refine (HV.out).mono ?_
  rintro e w' ⟨rfl, h'⟩
  obtain rfl := h'.symm
  go_wp2_with fail
  go_ret2
  exact ⟨rfl, rfl⟩

theorem nm_step (v a : Value) (w : World) (h : NoM w v) : Calls Tryz.prog 71 #[v, a] w fun e w' => e = .returned (.int .i64 1) ∧ w' = w := by
  have HV := hid (nm_check v a w h)
  clear h
  go_enter Tryz.func71, Tryz.ntmps71
  go_wp2_with fail
  refine (HV.out).mono ?_
  rintro e w' ⟨rfl, h'⟩
  obtain rfl := h'.symm
  go_wp2_with fail
  go_ret
  exact ⟨rfl, rfl⟩

theorem nm_made (v : Value) (r : Rf) (w : World) (h : NoM w v) : Calls Tryz.prog 115 #[v, .agg #[.int .i64 r.s, .int .u32 r.g]] w fun e w' => e = .returned (.int .i64 1) ∧ Keeps (fun _ => False) w w' := by
  have HV := hid (fun (w' : World) (hk : Keeps (fun _ => False) w w') => mvalid_no v w' (h.keeps0 hk))
  clear h
  go_enter Tryz.func115, Tryz.ntmps115
  go_wp2_with fail
  refine (HV.out _ ((Keeps.refl _ _).alloc _)).mono ?_
  rintro e w' ⟨rfl, h'⟩
  obtain rfl := h'.symm
  go_wp2_with fail
  go_ret
  exact ⟨rfl, (Keeps.refl _ _).alloc _⟩

theorem nm_wrote (v : Value) (s : Int) (r q : Rf) (w : World) (h : NoM w v) : Calls Tryz.prog 204 #[v, .int .i64 s, .agg #[.int .i64 r.s, .int .u32 r.g], .agg #[.int .i64 q.s, .int .u32 q.g]] w fun e w' => e = .returned (.int .i64 1) ∧ Keeps (fun _ => False) w w' := by
  have HV := hid (fun (w' : World) (hk : Keeps (fun _ => False) w w') => mvalid_no v w' (h.keeps0 hk))
  clear h
  go_enter Tryz.func204, Tryz.ntmps204
  go_wp2_with fail
  refine (HV.out _ (((Keeps.refl _ _).alloc _).alloc _)).mono ?_
  rintro e w' ⟨rfl, h'⟩
  obtain rfl := h'.symm
  go_wp2_with fail
  go_ret
  exact ⟨rfl, ((Keeps.refl _ _).alloc _).alloc _⟩

/-- no arena: nil, or one that New did not make -/
def NoA (w : World) (v : Value) : Prop := v = .pointer none ∨ ∃ b, v = .pointer (some ⟨b, 0, none⟩) ∧
  w.heap[b]? = some (.cells #[.pointer none, .int .i64 0, .int .i64 0, .pointer none, .pointer none, .pointer none, .pointer none, .pointer none] 46)
theorem NoA.keeps0 {w w' : World} {v : Value} (h : NoA w v) (hk : Keeps (fun _ => False) w w') : NoA w' v := by
  rcases h with h | ⟨b, h, hb⟩
  · exact .inl h
  · exact .inr ⟨b, h, block_keep hb hk (fun h => h)⟩

theorem avalid_no (v : Value) (w : World) (h : NoA w v) : Calls Tryz.prog 149 #[v] w fun e w' => e = .returned (.bool false) ∧ w' = w := by
  rcases h with rfl | ⟨b, rfl, hb⟩
  · go_enter Tryz.func149, Tryz.ntmps149
    go_wp2
    go_ret
    exact ⟨rfl, rfl⟩
  · have c0 : w.cell? ⟨b, 0, none⟩ = some (.pointer none) := cell_at hb rfl
    clear hb
    go_enter Tryz.func149, Tryz.ntmps149
    go_wp2
    go_ret
    exact ⟨rfl, rfl⟩

theorem asizes_no (v : Value) (w : World) (h : NoA w v) : Calls Tryz.prog 109 #[v] w fun e w' => e = .returned (.tuple #[.int .i64 0, .int .i64 0]) ∧ w' = w := by
  have HV := hid (avalid_no v w h)
  clear h
  go_enter Tryz.func109, Tryz.ntmps109
  go_wp2_with fail
  refine (HV.out).mono ?_
  rintro e w' ⟨rfl, h'⟩
  obtain rfl := h'.symm
  go_wp2_with fail
  go_ret2
  exact ⟨rfl, rfl⟩

theorem mcheck_no (m : Nat) (L : MkL) (M : Mk) (v : Value) (w : World) (h : MkIn w m L M) (ha : NoA w v) :
    Calls Tryz.prog 214 #[.pointer (some ⟨m, 0, none⟩), v] w fun e w' => e = .returned (.int .i64 1) ∧ w' = w := by
  have HV := hid (mvalid m L M w h)
  have HS := hid (asizes_no v w ha)
  obtain ⟨c0, c1, c2, c3, c4, c5, cl⟩ := cells6 h.own
  clear h ha
  go_enter Tryz.func214, Tryz.ntmps214
  go_wp2_with fail
  refine (HV.out).mono ?_
  rintro e w' ⟨rfl, h'⟩
  obtain rfl := h'.symm
  go_wp2_with fail
  refine (HS.out).mono ?_
  rintro e w' ⟨rfl, h'⟩
  obtain rfl := h'.symm
  go_wp2_with fail
  go_ret
  exact ⟨rfl, rfl⟩

theorem mack_no (m : Nat) (L : MkL) (M : Mk) (v : Value) (s : Int) (w : World) (h : MkIn w m L M) (ha : NoA w v) :
    Calls Tryz.prog 129 #[.pointer (some ⟨m, 0, none⟩), v, .int .i64 s] w fun e w' => e = .returned (.tuple #[.bool false, .int .i64 1]) ∧ w' = w := by
  have HV := hid (mcheck_no m L M v w h ha)
  clear h ha
  go_enter Tryz.func129, Tryz.ntmps129
  go_wp2_with fail
  refine (HV.out).mono ?_
  rintro e w' ⟨rfl, h'⟩
  obtain rfl := h'.symm
  go_wp2_with fail
  go_ret2
  exact ⟨rfl, rfl⟩

theorem mstep_no (m : Nat) (L : MkL) (M : Mk) (v : Value) (w : World) (h : MkIn w m L M) (ha : NoA w v) :
    Calls Tryz.prog 71 #[.pointer (some ⟨m, 0, none⟩), v] w fun e w' => e = .returned (.int .i64 1) ∧ w' = w := by
  have HV := hid (mcheck_no m L M v w h ha)
  clear h ha
  go_enter Tryz.func71, Tryz.ntmps71
  go_wp2_with fail
  refine (HV.out).mono ?_
  rintro e w' ⟨rfl, h'⟩
  obtain rfl := h'.symm
  go_wp2_with fail
  go_ret
  exact ⟨rfl, rfl⟩

end Go.Proofs.YtlgibhfeldlbiaaGreat
