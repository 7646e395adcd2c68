/- Package cycle: collectors and arenas that are nil, or were not made by New. -/
import Derived.Test.YtafcjciolekdkaaGreatCyB
import Derived.Test.YtafcjciolekdkaaGreatMgQ
import Derived.Test.YtafcjciolekdkaaGreatCyM
namespace Go.Proofs.YtafcjciolekdkaaGreat
open Go.RowKit
set_option linter.unusedVariables false
set_option linter.unusedSimpArgs false
set_option linter.unusedSectionVars false

def NoC (w : World) (v : Value) : Prop := v = .pointer none ∨ ∃ b, v = .pointer (some ⟨b, 0, none⟩) ∧ w.heap[b]? = some (.cells #[.pointer none, .pointer none, .int .i64 0, .int .i64 0, .int .i64 0, .int .i64 0, .bool false] 99)
theorem NoC.keeps0 {w w' : World} {v : Value} (h : NoC w v) (hk : Keeps (fun _ => False) w w') : NoC w' v := by
  rcases h with h | ⟨b, h, hb⟩
  · exact .inl h
  · exact .inr ⟨b, h, block_keep hb hk (fun h => h)⟩
theorem ncvalid (v : Value) (w : World) (h : NoC w v) : Calls Tryz.prog 106 #[v] w fun e w' => e = .returned (.bool false) ∧ w' = w := by
  rcases h with rfl | ⟨b, rfl, hb⟩
  · go_enter Tryz.func106, Tryz.ntmps106
    go_wp2
    go_ret
    exact ⟨rfl, rfl⟩
  · obtain ⟨c0, c1, c2, c3, c4, c5, c6, cl⟩ := cells7 hb
    clear hb
    go_enter Tryz.func106, Tryz.ntmps106
    go_wp2
    go_ret
    exact ⟨rfl, rfl⟩
theorem nc_ack (v a : Value) (i : Int) (w : World) (h : NoC w v) : Calls Tryz.prog 38 #[v, a, .int .i64 i] w fun e w' => e = .returned (.tuple #[.bool false, .int .i64 1]) ∧ w' = w := by
  have HV := hid (ncvalid v w h)
  clear h
  go_enter Tryz.func38, Tryz.ntmps38
  go_wp2_with fail
  refine (HV.out).mono ?_
  rintro e w' ⟨rfl, h'⟩
  obtain rfl := h'.symm
  go_wp2_with fail
  go_ret2
  exact ⟨rfl, rfl⟩
theorem nc_ask (v : Value) (w : World) (h : NoC w v) : Calls Tryz.prog 40 #[v] w fun e w' => e = .returned (.bool false) ∧ w' = w := by
  have HV := hid (ncvalid v w h)
  clear h
  go_enter Tryz.func40, Tryz.ntmps40
  go_wp2_with fail
  refine (HV.out).mono ?_
  rintro e w' ⟨rfl, h'⟩
  obtain rfl := h'.symm
  go_wp2_with fail
  go_ret
  exact ⟨rfl, rfl⟩
theorem nc_marker (v : Value) (w : World) (h : NoC w v) : Calls Tryz.prog 54 #[v] w fun e w' => e = .returned (.pointer none) ∧ w' = w := by
  have HV := hid (ncvalid v w h)
  clear h
  go_enter Tryz.func54, Tryz.ntmps54
  go_wp2_with fail
  refine (HV.out).mono ?_
  rintro e w' ⟨rfl, h'⟩
  obtain rfl := h'.symm
  go_wp2_with fail
  go_ret
  exact ⟨rfl, rfl⟩
theorem nc_phase (v : Value) (w : World) (h : NoC w v) : Calls Tryz.prog 42 #[v] w fun e w' => e = .returned (.int .i64 0) ∧ w' = w := by
  have HV := hid (ncvalid v w h)
  clear h
  go_enter Tryz.func42, Tryz.ntmps42
  go_wp2_with fail
  refine (HV.out).mono ?_
  rintro e w' ⟨rfl, h'⟩
  obtain rfl := h'.symm
  go_wp2_with fail
  go_ret
  exact ⟨rfl, rfl⟩
theorem nc_begun (v : Value) (w : World) (h : NoC w v) : Calls Tryz.prog 51 #[v] w fun e w' => e = .returned (.int .i64 0) ∧ w' = w := by
  have HV := hid (ncvalid v w h)
  clear h
  go_enter Tryz.func51, Tryz.ntmps51
  go_wp2_with fail
  refine (HV.out).mono ?_
  rintro e w' ⟨rfl, h'⟩
  obtain rfl := h'.symm
  go_wp2_with fail
  go_ret
  exact ⟨rfl, rfl⟩
theorem nc_ended (v : Value) (w : World) (h : NoC w v) : Calls Tryz.prog 50 #[v] w fun e w' => e = .returned (.int .i64 0) ∧ w' = w := by
  have HV := hid (ncvalid v w h)
  clear h
  go_enter Tryz.func50, Tryz.ntmps50
  go_wp2_with fail
  refine (HV.out).mono ?_
  rintro e w' ⟨rfl, h'⟩
  obtain rfl := h'.symm
  go_wp2_with fail
  go_ret
  exact ⟨rfl, rfl⟩
theorem nc_copy (v : Value) (w : World) (h : NoC w v) : Calls Tryz.prog 60 #[v] w fun e w' => e = .returned (.pointer none) ∧ w' = w := by
  have HV := hid (ncvalid v w h)
  clear h
  go_enter Tryz.func60, Tryz.ntmps60
  go_wp2_with fail
  refine (HV.out).mono ?_
  rintro e w' ⟨rfl, h'⟩
  obtain rfl := h'.symm
  go_wp2_with fail
  go_ret
  exact ⟨rfl, rfl⟩
set_option maxRecDepth 100000 in
theorem cystep_nil (v va : Value) (room n k : Int) (vb : Bool) (w : World)
    (hs : ∀ W, Keeps (fun _ => False) w W → Calls Tryz.prog 49 #[va] W fun e w' => e = .returned (.tuple #[.int .i64 n, .int .i64 k]) ∧ Keeps (fun _ => False) W w')
    (hv : ∀ W, Keeps (fun _ => False) w W → Calls Tryz.prog 106 #[v] W fun e w' => e = .returned (.bool vb) ∧ w' = W) (hbad : vb = false ∨ n = 0) :
    Calls Tryz.prog 36 #[v, va, .int .i64 room] w fun e w' => e = .returned (.tuple #[.agg #[.int .i64 0, .int .u32 0], .bool false, .int .i64 1]) ∧ Keeps (fun _ => False) w w' := by
  have HS := hid hs; have HV := hid hv
  clear hs hv
  cases vb
  · clear hbad
    go_enter Tryz.func36, Tryz.ntmps36
    go_wp2_with fail
    refine (HS.out _ ((Keeps.refl _ _).alloc _)).mono ?_
    rintro e w1 ⟨rfl, hk1⟩
    have HK1 := hid (((Keeps.refl (fun _ => False) w).alloc _).trans hk1)
    obtain ⟨a0, a1, af, al⟩ := cells2 (block_keep (alloc_new (w := w)) hk1 (fun h => h))
    have a0f := af 0; have a1f := af 1
    clear hk1 af
    go_wp2_with fail
    refine ((HV.out _ HK1.out)).mono ?_
    rintro e w' ⟨rfl, h'⟩
    obtain rfl := h'.symm
    go_wp2_with fail
    refine bodyPost_ret_by (v := .tuple #[Rf.no.val, .bool false, .int .i64 1]) (by simp [results, Tryz.results36, go_sem, Rf.val, Rf.no, *]) rfl ⟨rfl, Keeps.fresh ?_⟩
    repeat (first | (with_reducible exact HK1.out.up) | with_reducible refine Keeps.setCell ?_ ?_ _ | with_reducible refine Keeps.alloc ?_ _ | with_reducible refine Keeps.drewN ?_ _ | with_reducible refine Keeps.drew ?_)
    all_goals first | (left; simp; done) | (left; simp; omega) | (right; simp; done) | (right; simp; omega)
  · obtain rfl : n = 0 := hbad.resolve_left (fun h => by cases h)
    clear hbad
    go_enter Tryz.func36, Tryz.ntmps36
    go_wp2_with fail
    refine (HS.out _ ((Keeps.refl _ _).alloc _)).mono ?_
    rintro e w1 ⟨rfl, hk1⟩
    have HK1 := hid (((Keeps.refl (fun _ => False) w).alloc _).trans hk1)
    obtain ⟨a0, a1, af, al⟩ := cells2 (block_keep (alloc_new (w := w)) hk1 (fun h => h))
    have a0f := af 0; have a1f := af 1
    clear hk1 af
    go_wp2_with fail
    refine ((HV.out _ HK1.out)).mono ?_
    rintro e w' ⟨rfl, h'⟩
    obtain rfl := h'.symm
    go_wp2_with fail
    refine bodyPost_ret_by (v := .tuple #[Rf.no.val, .bool false, .int .i64 1]) (by simp [results, Tryz.results36, go_sem, Rf.val, Rf.no, *]) rfl ⟨rfl, Keeps.fresh ?_⟩
    repeat (first | (with_reducible exact HK1.out.up) | with_reducible refine Keeps.setCell ?_ ?_ _ | with_reducible refine Keeps.alloc ?_ _ | with_reducible refine Keeps.drewN ?_ _ | with_reducible refine Keeps.drew ?_)
    all_goals first | (left; simp; done) | (left; simp; omega) | (right; simp; done) | (right; simp; omega)
section
variable {w0 w w' : World} {a m b c : Nat} {LA : ArL} {LM : MkL} {k : Col}
theorem step_noc (h : Quad w0 w a m b c LA LM k) {v : Value} (hv : NoC w v) (room : Int) : Calls Tryz.prog 36 #[v, .pointer (some ⟨a, 0, none⟩), .int .i64 room] w fun e w' => e = .returned (.tuple #[.agg #[.int .i64 0, .int .u32 0], .bool false, .int .i64 1]) ∧ Keeps (fun _ => False) w w' :=
  cystep_nil _ _ _ _ _ false w (fun W hk => asizes_ok a LA k.s.A W (h.same hk).tr.both.ar) (fun W hk => ncvalid v W (hv.keeps0 hk)) (.inl rfl)
theorem cstep_noa (h : Quad w0 w a m b c LA LM k) {v : Value} (hv : NoA w v) (room : Int) : Calls Tryz.prog 36 #[.pointer (some ⟨c, 0, none⟩), v, .int .i64 room] w fun e w' => e = .returned (.tuple #[.agg #[.int .i64 0, .int .u32 0], .bool false, .int .i64 1]) ∧ Keeps (fun _ => False) w w' :=
  cystep_nil _ _ _ 0 0 true w (fun W hk => (asizes_no v W (hv.keeps0 hk)).mono (fun e w' ⟨h1, h2⟩ => ⟨h1, h2 ▸ Keeps.refl _ _⟩)) (fun W hk => cyvalid (h.same hk)) (.inr rfl)
theorem cyack_noa (h : Quad w0 w a m b c LA LM k) {v : Value} (hv : NoA w v) (i : Int) : Calls Tryz.prog 38 #[.pointer (some ⟨c, 0, none⟩), v, .int .i64 i] w fun e w' => e = .returned (.tuple #[.bool false, .int .i64 1]) ∧ w' = w := by
  have HV := hid (cyvalid h)
  have HA := hid (mack_no m LM k.s.M v i w h.tr.both.mm hv)
  obtain ⟨c0, c1, c2, c3, c4, c5, c6, cl⟩ := cells7 h.own
  clear h hv
  go_enter Tryz.func38, Tryz.ntmps38
  go_wp2_with fail
  refine (HV.out).mono ?_
  rintro e w' ⟨rfl, h'⟩
  obtain rfl := h'.symm
  go_wp2_with fail
  refine (HA.out).mono ?_
  rintro e w' ⟨rfl, h'⟩
  obtain rfl := h'.symm
  go_wp2_with fail
  go_ret2
  exact ⟨rfl, rfl⟩
end
end Go.Proofs.YtafcjciolekdkaaGreat

/- estraylaw26.CycleNil: the walk. -/
namespace Go.Proofs.YtafcjciolekdkaaGreat
open Go.RowKit Go.ChangeShapes Go.WideShapes Go.ChangeAt Go.Deep
set_option linter.unusedVariables false
set_option linter.unusedSimpArgs false

theorem nbegin (W : World) : Calls Tryz.prog 45 #[.agg #[.int .i64 2, .int .i64 1, .int .i64 1, .int .i64 1, .int .i64 0, .int .i64 0, .int .i64 0, .int .i64 0, .int .i64 0, .int .u32 0]] W fun e w' => ∃ q, pbeg W w' q (Col.new 2 1 1 1) e :=
  begin26 2 1 1 1 (fun _ => 0) W (by decide) (by decide) (by decide) (by decide) (by decide) (by decide) (by decide) (by decide)
set_option maxRecDepth 100000 in
set_option maxHeartbeats 4000000 in
theorem cycleNil_walk (room : Int) (_ : (Lit.int .i64 room).wf = true) (mm : Int) (_ : (Lit.int .i64 mm).wf = true) (w : World) :
    Calls Tryz.prog 8 #[.int .i64 room, .int .i64 mm] w fun e w' => e = .returned (.bool true) ∧ Keeps (fun _ => False) w w' := by
  go_enter Tryz.func8, Tryz.ntmps8
  go_wp2_with fail
  refine (nbegin _).mono ?_
  rintro e w1 ⟨p, rfl, w0, a, m, b, c, LA, LM, k0, hp⟩
  have HK0 := hid k0
  obtain ⟨K, hK⟩ : ∃ K, Col.new 2 1 1 1 = K := ⟨_, rfl⟩
  rw [hK] at hp
  have HP1 := hid hp
  clear k0 hp hK
  go_wp2_with fail
  obtain ⟨w3, hw3⟩ : ∃ w3, (w1.alloc (.cells #[.pointer none, .pointer none, .int .i64 0, .int .i64 0, .int .i64 0, .int .i64 0, .bool false] 99)).alloc (.cells #[.pointer none, .pointer (some ⟨w1.heap.size, 0, none⟩)] 64) = w3 := ⟨_, rfl⟩
  have k3 : Keeps (fun _ => False) w1 w3 := by rw [← hw3]; exact ((Keeps.refl _ _).alloc _).alloc _
  have p3 : w3.heap[w1.heap.size]? = some (.cells #[.pointer none, .pointer none, .int .i64 0, .int .i64 0, .int .i64 0, .int .i64 0, .bool false] 99) := by rw [← hw3]; exact alloc_old alloc_new
  have q3 : w3.heap[w1.heap.size + 1]? = some (.cells #[.pointer none, .pointer (some ⟨w1.heap.size, 0, none⟩)] 64) := by rw [← hw3]; exact alloc_new' (by simp)
  rw [hw3]
  have HP3 := hid (HP1.out.same k3)
  have HZ3 := hid p3; have HQ3 := hid q3
  clear hw3 k3 p3 q3 HP1
  go_loopw [35] (fun ix wr => ∃ j : Nat, j ≤ 2 ∧ ix = .int .i64 j ∧ Keeps (fun _ => False) w3 wr) (fun ix _ => 2 - (intOf ix).toNat)
  case atStart => exact ⟨0, by omega, rfl, Keeps.refl _ _⟩
  case round =>
    obtain ⟨j, hj, rfl, hkr⟩ := hrel
    by_cases hlt : j < 2
    · obtain ⟨u, hu, hn⟩ : ∃ u, wr.cell? ⟨w1.heap.size + 1, j, none⟩ = some u ∧ NoC wr u := by
        have hb := block_keep HQ3.out hkr (fun h => h)
        match j, hlt with
        | 0, _ => exact ⟨_, cell_at hb rfl, .inl rfl⟩
        | 1, _ => exact ⟨_, cell_at hb rfl, .inr ⟨_, rfl, block_keep HZ3.out hkr (fun h => h)⟩⟩
      have HKR := hid hkr
      have HPR := hid (HP3.out.same hkr)
      have HN := hid (fun (W : World) (hk : Keeps (fun _ => False) wr W) => hn.keeps0 hk)
      have hlt' : (j : Int) < 2 := by omega
      have hj0 : (0 : Int) ≤ j := by omega
      obtain ⟨x0, x1, xl⟩ := pair_cells HPR.out
      clear hkr hn
      go_wp2_with fail
      refine (step_noc HPR.out.q (HN.out _ (Keeps.refl _ _)) room).mono ?_
      rintro e w4 ⟨rfl, k4⟩
      have HK4 := hid k4
      have HN4 := hid (HN.out _ (k4.alloc (.cells #[.int .i64 0, .int .u32 0] 38)))
      have hp4 := HPR.out.same (k4.alloc (.cells #[.int .i64 0, .int .u32 0] 38))
      clear k4 x0 x1 xl
      obtain ⟨x0, x1, xl⟩ := pair_cells hp4
      clear hp4
      go_wp2_with fail
      refine ((nc_ack u _ mm _ HN4.out)).mono ?_
      rintro e w' ⟨rfl, h'⟩
      obtain rfl := h'.symm
      go_wp2_with fail
      refine ((nc_ask u _ HN4.out)).mono ?_
      rintro e w' ⟨rfl, h'⟩
      obtain rfl := h'.symm
      go_wp2_with fail
      refine ((nc_marker u _ HN4.out)).mono ?_
      rintro e w' ⟨rfl, h'⟩
      obtain rfl := h'.symm
      go_wp2_with fail
      refine ((nc_phase u _ HN4.out)).mono ?_
      rintro e w' ⟨rfl, h'⟩
      obtain rfl := h'.symm
      go_wp2_with fail
      refine ((nc_begun u _ HN4.out)).mono ?_
      rintro e w' ⟨rfl, h'⟩
      obtain rfl := h'.symm
      go_wp2_with fail
      refine ((nc_ended u _ HN4.out)).mono ?_
      rintro e w' ⟨rfl, h'⟩
      obtain rfl := h'.symm
      go_wp2_with fail
      refine ((nc_copy u _ HN4.out)).mono ?_
      rintro e w' ⟨rfl, h'⟩
      obtain rfl := h'.symm
      go_wp2_with fail
      exact ⟨⟨j + 1, by omega, by go_num, HKR.out.trans (HK4.out.alloc _)⟩, by simp [intOf]; omega⟩
    · have hlt' : ¬ (j : Int) < 2 := by omega
      obtain ⟨wo, hwo⟩ : ∃ wo : World, wr = wo := ⟨_, rfl⟩
      have HPO := hid (HP3.out.same hkr)
      rw [hwo] at HPO ⊢
      clear hkr HP3 HZ3 HQ3 hlt hwo
      go_wp2_with fail
      clear hlt'
      obtain ⟨w5, hw5⟩ : ∃ w5, (wo.alloc (.cells #[.pointer none, .int .i64 0, .int .i64 0, .pointer none, .pointer none, .pointer none, .pointer none, .pointer none] 107)).alloc (.cells #[.pointer none, .pointer (some ⟨wo.heap.size, 0, none⟩)] 25) = w5 := ⟨_, rfl⟩
      have k5 : Keeps (fun _ => False) wo w5 := by rw [← hw5]; exact ((Keeps.refl _ _).alloc _).alloc _
      have p5 : w5.heap[wo.heap.size]? = some (.cells #[.pointer none, .int .i64 0, .int .i64 0, .pointer none, .pointer none, .pointer none, .pointer none, .pointer none] 107) := by rw [← hw5]; exact alloc_old alloc_new
      have q5 : w5.heap[wo.heap.size + 1]? = some (.cells #[.pointer none, .pointer (some ⟨wo.heap.size, 0, none⟩)] 25) := by rw [← hw5]; exact alloc_new' (by simp)
      rw [hw5]
      have HP5 := hid (HPO.out.same k5)
      have HZ5 := hid p5; have HQ5 := hid q5
      clear hw5 k5 p5 q5 HPO
      go_loopw [112] (fun ix wr => ∃ j : Nat, j ≤ 2 ∧ ix = .int .i64 j ∧ Keeps (fun _ => False) w5 wr) (fun ix _ => 2 - (intOf ix).toNat)
      case atStart => exact ⟨0, by omega, rfl, Keeps.refl _ _⟩
      case round =>
        obtain ⟨i, hi, rfl, hkr⟩ := hrel
        by_cases hlt : i < 2
        · obtain ⟨u, hu, hn⟩ : ∃ u, wr.cell? ⟨wo.heap.size + 1, i, none⟩ = some u ∧ NoA wr u := by
            have hb := block_keep HQ5.out hkr (fun h => h)
            match i, hlt with
            | 0, _ => exact ⟨_, cell_at hb rfl, .inl rfl⟩
            | 1, _ => exact ⟨_, cell_at hb rfl, .inr ⟨_, rfl, block_keep HZ5.out hkr (fun h => h)⟩⟩
          have HKR := hid hkr
          have HPR := hid (HP5.out.same hkr)
          have HN := hid hn
          have hlt' : (i : Int) < 2 := by omega
          have hj0 : (0 : Int) ≤ i := by omega
          obtain ⟨x0, x1, xl⟩ := pair_cells HPR.out
          clear hkr hn
          go_wp2_with fail
          refine (cstep_noa HPR.out.q HN.out room).mono ?_
          rintro e w4 ⟨rfl, k4⟩
          have HK4 := hid k4
          have HN4 := hid (HN.out.keeps0 (k4.alloc (.cells #[.int .i64 0, .int .u32 0] 38)))
          have HP4 := hid (HPR.out.same (k4.alloc (.cells #[.int .i64 0, .int .u32 0] 38)))
          clear k4 x0 x1 xl
          obtain ⟨x0, x1, xl⟩ := pair_cells HP4.out
          go_wp2_with fail
          refine ((cyack_noa HP4.out.q HN4.out mm)).mono ?_
          rintro e w' ⟨rfl, h'⟩
          obtain rfl := h'.symm
          go_wp2_with fail
          exact ⟨⟨i + 1, by omega, by go_num, HKR.out.trans (HK4.out.alloc _)⟩, by simp [intOf]; omega⟩
        · have hlt' : ¬ (i : Int) < 2 := by omega
          have HPW := hid (HP5.out.same hkr)
          clear hkr HP5 HZ5 HQ5 hlt
          go_wp2_with fail
          refine (works26 _).mono ?_
          rintro e w9 ⟨rfl, k9⟩
          go_wp2_with fail
          go_ret
          exact ⟨rfl, (HK0.out.trans HPW.out.kp).trans k9⟩
end Go.Proofs.YtafcjciolekdkaaGreat
