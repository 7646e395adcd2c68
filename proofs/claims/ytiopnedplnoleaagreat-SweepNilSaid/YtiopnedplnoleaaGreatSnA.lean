/- estraylaw25.SweepNil: what is not valid. -/
import Derived.Test.YtiopnedplnoleaaGreatNgE
import Derived.Test.YtiopnedplnoleaaGreatMgQ
namespace Go.Proofs.YtiopnedplnoleaaGreat
open Go.RowKit Go.ChangeShapes Go.WideShapes Go.ChangeAt Go.Deep
set_option linter.unusedVariables false
set_option linter.unusedSimpArgs false

/-- no sweeper: nil, or one that New did not make -/
def NoS (w : World) (v : Value) : Prop := v = .pointer none ∨ ∃ b, v = .pointer (some ⟨b, 0, none⟩) ∧ w.heap[b]? = some (.cells #[.int .i64 0, .int .i64 0, .int .i64 0] 89)
theorem NoS.keeps0 {w w' : World} {v : Value} (h : NoS w v) (hk : Keeps (fun _ => False) w w') : NoS w' v := by
  rcases h with h | ⟨b, h, hb⟩
  · exact .inl h
  · exact .inr ⟨b, h, block_keep hb hk (fun h => h)⟩
theorem swmade_no (v : Value) (w : World) (h : NoS w v) : Calls Tryz.prog 133 #[v] w fun e w' => e = .returned (.bool false) ∧ w' = w := by
  rcases h with rfl | ⟨b, rfl, hb⟩
  · go_enter Tryz.func133, Tryz.ntmps133
    go_wp2
    go_ret
    exact ⟨rfl, rfl⟩
  · obtain ⟨c0, c1, c2, cl⟩ := cells3 hb
    clear hb
    go_enter Tryz.func133, Tryz.ntmps133
    go_wp2
    go_ret
    exact ⟨rfl, rfl⟩
theorem ns_begin (v : Value) (w : World) (h : NoS w v) : Calls Tryz.prog 48 #[v] w fun e w' => e = .returned (.int .i64 1) ∧ w' = w := by
  have HV := hid (swmade_no v w h)
  clear h
  go_enter Tryz.func48, Tryz.ntmps48
  go_wp2_with fail
  refine (HV.out).mono ?_
  rintro e w' ⟨rfl, h'⟩
  obtain rfl := h'.symm
  go_wp2_with fail
  go_ret
  exact ⟨rfl, rfl⟩
theorem ns_at (v : Value) (w : World) (h : NoS w v) : Calls Tryz.prog 38 #[v] w fun e w' => e = .returned (.int .i64 0) ∧ w' = w := by
  have HV := hid (swmade_no v w h)
  clear h
  go_enter Tryz.func38, Tryz.ntmps38
  go_wp2_with fail
  refine (HV.out).mono ?_
  rintro e w' ⟨rfl, h'⟩
  obtain rfl := h'.symm
  go_wp2_with fail
  go_ret
  exact ⟨rfl, rfl⟩
theorem ns_freed (v : Value) (w : World) (h : NoS w v) : Calls Tryz.prog 40 #[v] w fun e w' => e = .returned (.int .i64 0) ∧ w' = w := by
  have HV := hid (swmade_no v w h)
  clear h
  go_enter Tryz.func40, Tryz.ntmps40
  go_wp2_with fail
  refine (HV.out).mono ?_
  rintro e w' ⟨rfl, h'⟩
  obtain rfl := h'.symm
  go_wp2_with fail
  go_ret
  exact ⟨rfl, rfl⟩
theorem ns_copy (v : Value) (w : World) (h : NoS w v) : Calls Tryz.prog 49 #[v] w fun e w' => e = .returned (.pointer none) ∧ w' = w := by
  have HV := hid (swmade_no v w h)
  clear h
  go_enter Tryz.func49, Tryz.ntmps49
  go_wp2_with fail
  refine (HV.out).mono ?_
  rintro e w' ⟨rfl, h'⟩
  obtain rfl := h'.symm
  go_wp2_with fail
  go_ret
  exact ⟨rfl, rfl⟩
theorem ns_done (v : Value) (w : World) (h : NoS w v) : Calls Tryz.prog 37 #[v] w fun e w' => e = .returned (.bool false) ∧ Keeps (fun _ => False) w w' := by
  have HV := hid (fun W (hk : Keeps (fun _ => False) w W) => swmade_no v W (h.keeps0 hk))
  clear h
  go_enter Tryz.func37, Tryz.ntmps37
  go_wp2_with fail
  go_quiet (first | (go_at_call 133; refine (HV.out _ (by repeat (first | exact Keeps.refl _ _ | apply Keeps.alloc | apply Keeps.drewN | apply Keeps.drew))).mono ?_; rintro e w' ⟨rfl, rfl⟩; exact ⟨rfl, _, rfl⟩))
  go_wp2_with fail
  go_ret
  exact ⟨rfl, (by repeat (first | exact Keeps.refl _ _ | apply Keeps.alloc | apply Keeps.drewN | apply Keeps.drew))⟩

/-- a step where something is not valid -/
theorem swcheck_nil (vs va vm : Value) (mb bm : Bool) (n k em : Int) (w : World)
    (hs : ∀ W, Keeps (fun _ => False) w W → Calls Tryz.prog 133 #[vs] W fun e w' => e = .returned (.bool mb) ∧ w' = W)
    (ha : ∀ W, Keeps (fun _ => False) w W → Calls Tryz.prog 86 #[va] W fun e w' => e = .returned (.tuple #[.int .i64 n, .int .i64 k]) ∧ Keeps (fun _ => False) W w')
    (hm : ∀ W, Keeps (fun _ => False) w W → Calls Tryz.prog 28 #[vm, .int .i64 0] W fun e w' => e = .returned (.tuple #[.bool bm, .int .i64 em]) ∧ Keeps (fun _ => False) W w')
    (hno : mb = false ∨ n = 0 ∨ em = 1) :
    Calls Tryz.prog 155 #[vs, va, vm] w fun e w' => e = .returned (.int .i64 1) ∧ Keeps (fun _ => False) w w' := by
  have HS := hid hs; have HA := hid ha; have HM := hid hm
  clear hs ha hm
  by_cases h1 : mb = false
  · subst h1
    clear hno
    go_enter Tryz.func155, Tryz.ntmps155
    go_wp2_with fail
    refine (HA.out _ (Keeps.refl _ _)).mono ?_
    rintro e w1 ⟨rfl, hk1⟩
    have HK1 := hid hk1
    clear hk1
    go_wp2_with fail
    refine (HM.out _ HK1.out).mono ?_
    rintro e w2 ⟨rfl, hk2⟩
    have HK2 := hid (HK1.out.trans hk2)
    clear hk2
    go_wp2_with fail
    refine ((HS.out _ HK2.out)).mono ?_
    rintro e w' ⟨rfl, h'⟩
    obtain rfl := h'.symm
    go_wp2_with fail
    go_ret
    exact ⟨rfl, HK2.out⟩
  obtain rfl : mb = true := by simpa using h1
  clear h1
  by_cases h2 : n = 0
  · subst h2
    clear hno
    go_enter Tryz.func155, Tryz.ntmps155
    go_wp2_with fail
    refine (HA.out _ (Keeps.refl _ _)).mono ?_
    rintro e w1 ⟨rfl, hk1⟩
    have HK1 := hid hk1
    clear hk1
    go_wp2_with fail
    refine (HM.out _ HK1.out).mono ?_
    rintro e w2 ⟨rfl, hk2⟩
    have HK2 := hid (HK1.out.trans hk2)
    clear hk2
    go_wp2_with fail
    refine ((HS.out _ HK2.out)).mono ?_
    rintro e w' ⟨rfl, h'⟩
    obtain rfl := h'.symm
    go_wp2_with fail
    go_ret
    exact ⟨rfl, HK2.out⟩
  · obtain rfl : em = 1 := by rcases hno with h | h | h; cases h; exact absurd h h2; exact h
    have hn0 : (n == 0) = false := by simpa using h2
    clear hno h2
    go_enter Tryz.func155, Tryz.ntmps155
    go_wp2_with fail
    refine (HA.out _ (Keeps.refl _ _)).mono ?_
    rintro e w1 ⟨rfl, hk1⟩
    have HK1 := hid hk1
    clear hk1
    go_wp2_with fail
    refine (HM.out _ HK1.out).mono ?_
    rintro e w2 ⟨rfl, hk2⟩
    have HK2 := hid (HK1.out.trans hk2)
    clear hk2
    go_wp2_with fail
    refine ((HS.out _ HK2.out)).mono ?_
    rintro e w' ⟨rfl, h'⟩
    obtain rfl := h'.symm
    go_wp2_with fail
    go_ret
    exact ⟨rfl, HK2.out⟩

/-- .. at any sweeper value -/
theorem swstep_errV (vs va vm : Value) (w : World) (k : Int) (hk : (k == 0) = false) (hc : ∀ W, Keeps (fun _ => False) w W → Calls Tryz.prog 155 #[vs, va, vm] W fun e w' => e = .returned (.int .i64 k) ∧ Keeps (fun _ => False) W w') :
    Calls Tryz.prog 47 #[vs, va, vm] w fun e w' => e = .returned (.tuple #[.agg #[.int .i64 0, .int .u32 0], .bool false, .int .i64 k]) ∧ Keeps (fun _ => False) w w' := by
  have HC := hid hc
  clear hc
  go_enter Tryz.func47, Tryz.ntmps47
  go_wp2_with fail
  refine (HC.out _ ((Keeps.refl _ _).alloc _)).mono ?_
  rintro e w1 ⟨rfl, hk1⟩
  have HK1 := hid (((Keeps.refl (fun _ => False) w).alloc _).trans hk1)
  obtain ⟨a0, a1, af, al⟩ := cells2 (block_keep (alloc_new (w := w)) hk1 (fun h => h))
  have a0f := af 0; have a1f := af 1
  clear hk1 af
  go_wp2_with fail
  refine bodyPost_ret_by (v := .tuple #[Rf.no.val, .bool false, .int .i64 k]) (by simp [results, Tryz.results47, go_sem, Rf.val, Rf.no, *]) rfl ⟨rfl, Keeps.fresh ?_⟩
  repeat (first | (with_reducible exact HK1.out.up) | with_reducible refine Keeps.setCell ?_ ?_ _ | with_reducible refine Keeps.alloc ?_ _ | with_reducible refine Keeps.drewN ?_ _ | with_reducible refine Keeps.drew ?_)
  all_goals first | (left; simp; done) | (left; simp; omega) | (right; simp; done) | (right; simp; omega)

section
variable {w0 w : World} {a m b : Nat} {LA : ArL} {LM : MkL} {s : Sys} {S : Sw}
theorem sizes_k (h : Trio w0 w a m b LA LM s S) : ∀ W, Keeps (fun _ => False) w W → Calls Tryz.prog 86 #[.pointer (some ⟨a, 0, none⟩)] W fun e w' => e = .returned (.tuple #[.int .i64 s.A.H.T.n, .int .i64 s.A.many]) ∧ Keeps (fun _ => False) W w' :=
  fun W hk => (asizes_ok a LA s.A W (h.both.ar.keeps0 hk)).mono (fun e w' ⟨h1, h2⟩ => ⟨h1, h2⟩)
theorem marked_k (h : Trio w0 w a m b LA LM s S) : ∀ W, Keeps (fun _ => False) w W → Calls Tryz.prog 28 #[.pointer (some ⟨m, 0, none⟩), .int .i64 0] W fun e w' => e = .returned (.tuple #[.bool (s.M.markedR 0).1, .int .i64 (s.M.markedR 0).2]) ∧ Keeps (fun _ => False) W w' :=
  fun W hk => mmarked_any m LM s.M 0 W (h.both.mm.keeps0 hk)
/-- no sweeper -/
theorem step_nos (h : Trio w0 w a m b LA LM s S) {v : Value} (hv : NoS w v) : Calls Tryz.prog 47 #[v, .pointer (some ⟨a, 0, none⟩), .pointer (some ⟨m, 0, none⟩)] w fun e w' => e = .returned (.tuple #[.agg #[.int .i64 0, .int .u32 0], .bool false, .int .i64 1]) ∧ Keeps (fun _ => False) w w' :=
  swstep_errV _ _ _ w 1 rfl (fun W hk => swcheck_nil _ _ _ false _ _ _ _ W (fun W2 hk2 => swmade_no v W2 ((hv.keeps0 hk).keeps0 hk2)) (sizes_k (h.same hk)) (marked_k (h.same hk)) (.inl rfl))
/-- no arena -/
theorem step_noa (h : Trio w0 w a m b LA LM s S) {v : Value} (hv : NoA w v) : Calls Tryz.prog 47 #[.pointer (some ⟨b, 0, none⟩), v, .pointer (some ⟨m, 0, none⟩)] w fun e w' => e = .returned (.tuple #[.agg #[.int .i64 0, .int .u32 0], .bool false, .int .i64 1]) ∧ Keeps (fun _ => False) w w' :=
  swstep_errV _ _ _ w 1 rfl (fun W hk => swcheck_nil _ _ _ true _ 0 0 _ W (fun W2 hk2 => swmade b S W2 (((h.same hk).same hk2)).sw) (fun W2 hk2 => (asizes_no v W2 ((hv.keeps0 hk).keeps0 hk2)).mono (fun e w' ⟨h1, h2⟩ => ⟨h1, h2 ▸ Keeps.refl _ _⟩)) (marked_k (h.same hk)) (.inr (.inl rfl)))
/-- no marker -/
theorem step_nom (h : Trio w0 w a m b LA LM s S) {v : Value} (hv : NoM w v) : Calls Tryz.prog 47 #[.pointer (some ⟨b, 0, none⟩), .pointer (some ⟨a, 0, none⟩), v] w fun e w' => e = .returned (.tuple #[.agg #[.int .i64 0, .int .u32 0], .bool false, .int .i64 1]) ∧ Keeps (fun _ => False) w w' :=
  swstep_errV _ _ _ w 1 rfl (fun W hk => swcheck_nil _ _ _ true false _ _ 1 W (fun W2 hk2 => swmade b S W2 (((h.same hk).same hk2)).sw) (sizes_k (h.same hk)) (fun W2 hk2 => (nm_marked v 0 W2 ((hv.keeps0 hk).keeps0 hk2)).mono (fun e w' ⟨h1, h2⟩ => ⟨h1, h2 ▸ Keeps.refl _ _⟩)) (.inr (.inr rfl)))
end

end Go.Proofs.YtiopnedplnoleaaGreat
