/- estraylaw19: ReachAll. -/
import Derived.Test.YtkpnmajocgcccaaGreatRgP
import Derived.Test.YtkpnmajocgcccaaGreatCgA
namespace Go.Proofs.YtkpnmajocgcccaaGreat
open Go.RowKit Go.ChangeShapes Go.WideShapes Go.ChangeAt Go.Deep
set_option linter.unusedVariables false
set_option linter.unusedSimpArgs false

theorem SpRow.up {w w' : World} {v : Value} {l : List Sp} (h : SpRow w v l) (hk : Keeps (fun _ => False) w w') : SpRow w' v l := by
  obtain ⟨a, cap, e, h1, h2, h3⟩ := h
  refine ⟨a, cap, e, h1, h2, h3.imp_right ?_⟩
  rintro ⟨b, off, e2, hb, hc⟩
  exact ⟨b, off, e2, Nat.lt_of_lt_of_le hb hk.size, fun i x hx => (hc i x hx).same (hk.block b hb (fun h => h))⟩
set_option maxRecDepth 100000 in
set_option maxHeartbeats 8000000 in
theorem reachAll_walk (n m g : Int) (v3 : Value) (ls : List Sp) (r : Rf) (w : World) (h3 : SpRow w v3 ls) (hg : g ≤ 4294967295) (hr : r.Wf) :
    Calls Tryz.prog 4 #[.int .i64 n, .int .i64 m, .int .u32 g, v3, .agg #[.int .i64 r.s, .int .u32 r.g]] w fun e w' => e = .returned (.bool true) ∧ Keeps (fun _ => False) w w' := by
  have HWR := hid hr
  clear hr
  have HW := hid (fun w => works19 w)
  obtain ⟨wb, hwb⟩ : ∃ wb, w.alloc (.cells #[.int .i64 r.s, .int .u32 r.g] 41) = wb := ⟨_, rfl⟩
  have kb : Keeps (fun _ => False) w wb := by rw [← hwb]; exact (Keeps.refl _ _).alloc _
  have qb : wb.heap[w.heap.size]? = some (.cells #[.int .i64 r.s, .int .u32 r.g] 41) := by rw [← hwb]; exact alloc_new
  have KB := hid kb; have HQB := hid qb; have HWB := hid hwb; have HLB := hid (lt_block qb)
  have H3 := hid (h3.up kb)
  clear kb qb hwb
  obtain ⟨p3, c3, rfl, _⟩ := h3
  have hc : 60 < ls.length ∨ (¬ 60 < ls.length ∧ 200 < n) ∨ (¬ 60 < ls.length ∧ ¬ 200 < n) := by omega
  rcases hc with b1 | ⟨b1, b2⟩ | ⟨b1, b2⟩
  · have b1' : (60 : Int) < (ls.length : Int) := by omega
    clear b1
    go_enter Tryz.func4, Tryz.ntmps4
    go_wp2_with fail
    rw [HWB.out]
    refine (HW.out _).mono ?_
    rintro e w1 ⟨rfl, k1⟩
    have K1 := hid (KB.out.trans k1)
    clear k1
    go_wp2_with fail
    go_ret
    exact ⟨rfl, K1.out⟩
  · have b1' : ¬ (60 : Int) < (ls.length : Int) := by omega
    clear b1
    go_enter Tryz.func4, Tryz.ntmps4
    go_wp2_with fail
    rw [HWB.out]
    refine (HW.out _).mono ?_
    rintro e w1 ⟨rfl, k1⟩
    have K1 := hid (KB.out.trans k1)
    clear k1
    go_wp2_with fail
    go_ret
    exact ⟨rfl, K1.out⟩
  · have b1' : ¬ (60 : Int) < (ls.length : Int) := by omega
    by_cases hn : (n < 1 ∨ 256 < n ∨ g < 1) ∨ m < 1 ∨ 4 < m
    · have HA := hid (fun W => anew_bad n m g W hn hg)
      have HD := hid (fun W => new18_bad (w := W) n m g hn hg)
      clear b1 hn
      go_enter Tryz.func4, Tryz.ntmps4
      go_wp2_with fail
      rw [HWB.out]
      refine (HA.out _).mono ?_
      rintro e w1 ⟨rfl, k1⟩
      have K1 := hid k1
      clear k1
      go_wp2_with fail
      refine (HD.out _).mono ?_
      rintro e w2 ⟨rfl, k2⟩
      have HQ := hid (block_keep HQB.out (K1.out.trans k2) (fun h => h))
      have HB := hid (show Bo wb.heap.size wb w2 (.pointer none) (.pointer none) none from ⟨rfl, rfl, (K1.out.trans k2).up⟩)
      obtain ⟨O, hO⟩ : ∃ O : Option Ar, none = O := ⟨_, rfl⟩
      rw [hO] at HB
      have HLN := hid HB.out.len
      clear k2 hO K1
      go_wp2_with fail
      refine (HB.out.pall).mono ?_
      rintro e w5 ⟨v15, rfl, hr15, k5⟩
      have HB5 := hid (HB.out.quiet k5)
      have K5 := hid k5
      have HR15 := hid hr15
      clear k5 hr15
      go_wp2_with fail
      refine (HB5.out.dall).mono ?_
      rintro e w6 ⟨v16, rfl, hr16, k6⟩
      have HB6 := hid (HB5.out.quiet k6)
      have K6 := hid (K5.out.trans k6)
      have HR15b := hid (HR15.out.keeps k6 (fun _ _ _ _ h => h))
      have HR16 := hid hr16.refs
      clear k6 hr16 HR15
      go_wp2_with fail
      refine (HB6.out.plost).mono ?_
      rintro e w7 ⟨v17, rfl, hr17, k7⟩
      have HB7 := hid (HB6.out.quiet k7)
      have K7 := hid (K6.out.trans k7)
      have HR15c := hid (HR15b.out.keeps k7 (fun _ _ _ _ h => h))
      have HR16c := hid (HR16.out.keeps k7 (fun _ _ h => h))
      have HR17 := hid hr17
      have HNE := hid (show ∀ k, v17.ownBlock = some k → ¬ v15.ownBlock = some k from fun k h1 h2 => by
        have := (hr17.lt k h1).1
        have := (HR15b.out.lt k h2).2
        omega)
      clear k7 hr17 HR15b HR16
      go_wp2_with fail
      refine (HB7.out.dlost).mono ?_
      rintro e w8 ⟨v19, rfl, hr19, k8⟩
      have HB8 := hid (HB7.out.quiet k8)
      have K8 := hid (K7.out.trans k8)
      have HR15d := hid (HR15c.out.keeps k8 (fun _ _ _ _ h => h))
      have HR17d := hid (HR17.out.keeps k8 (fun _ _ _ _ h => h))
      have HEQ := hid (requal v15 v16 (oAll O) (oAll O) w8 HR15d.out.refs (HR16c.out.keeps k8 (fun _ _ h => h)) HLN.out.1)
      rw [decide_eq_true rfl] at HEQ
      have HR19 := hid hr19.refs
      have HEQ2 := hid (fun W (hk : Keeps (fun _ => False) w8 W) => requal v17 v19 (oLost O) (oLost O) W (HR17d.out.refs.keeps hk (fun _ _ h => h)) (HR19.out.keeps hk (fun _ _ h => h)) HLN.out.2.1)
      rw [decide_eq_true rfl] at HEQ2
      clear k8 hr19 HR15c HR17 HR16c
      go_wp2_with fail
      refine HEQ.out.mono ?_
      rintro e w9 ⟨rfl, k9⟩
      go_wp2_with fail
      refine (HEQ2.out _ k9).mono ?_
      rintro e w10 ⟨rfl, k10⟩
      obtain ⟨W15, hc15, kc15⟩ := run_clear_row (HR15d.out.keeps (k9.trans k10) (fun _ _ _ _ h => h))
      obtain ⟨W17, hc17, kc17⟩ := run_clear_row ((HR17d.out.keeps (k9.trans k10) (fun _ _ _ _ h => h)).keeps kc15 (fun k _ _ h1 h2 => HNE.out k h1 h2))
      have kq : Keeps (fun _ => False) w2 W17 := ((K8.out.trans (k9.trans k10)).trans' kc15 (U := fun _ => False) (fun _ _ h => h) (fun y hy hz => by have := (HR15d.out.lt y hz).1; omega)).trans' kc17 (U := fun _ => False) (fun _ _ h => h) (fun y hy hz => by have := (HR17d.out.lt y hz).1; have := K6.out.size; omega)
      have HBq := hid (HB.out.quiet kq)
      have KQ := hid kq
      obtain ⟨b0, b1, _, bl⟩ := cells2 (block_keep HQ.out kq (fun h => h))
      clear k9 k10 kc15 kc17 kq HEQ HEQ2 HNE HR15d HR17d HR19 HB5 HB6 HB7 HB8 K5 K6 K7 K8
      go_wp2_with fail
      have HNR := hid (row_three (a := r) (b := .no) (c := ⟨r.s, 0⟩) (alloc_new (w := W17) (o := .cells #[.int .i64 r.s, .int .u32 r.g, .int .i64 0, .int .u32 0, .int .i64 r.s, .int .u32 0] 41)) (Nat.le_refl _))
      obtain ⟨wn, hwn⟩ : ∃ wn, W17.alloc (.cells #[.int .i64 r.s, .int .u32 r.g, .int .i64 0, .int .u32 0, .int .i64 r.s, .int .u32 0] 41) = wn := ⟨_, rfl⟩
      have HBn := hid (show Bo wb.heap.size wb wn (.pointer none) (.pointer none) O from by rw [← hwn]; exact HBq.out.quiet ((Keeps.refl _ _).alloc _))
      rw [hwn] at HNR ⊢
      obtain ⟨ns, hns⟩ : ∃ ns : List Rf, [r, .no, ⟨r.s, 0⟩] = ns := ⟨_, rfl⟩
      have HWF := hid (show ∀ y ∈ ns, y.Wf from by
        rw [← hns]
        intro y hy
        simp only [List.mem_cons, List.not_mem_nil, or_false] at hy
        rcases hy with rfl | rfl | rfl
        · exact HWR.out
        · exact ⟨Int.le_refl _, by show (0 : Int) ≤ 4294967295; decide⟩
        · exact ⟨Int.le_refl _, by show (0 : Int) ≤ 4294967295; decide⟩)
      have HNL := hid (show ns.length = 3 from by rw [← hns]; rfl)
      rw [hns] at HNR
      obtain ⟨gn, hws⟩ : ∃ gn, W17.heap.size = gn := ⟨_, rfl⟩
      rw [hws] at HNR ⊢
      have HNC := hid (fun W (hk : Keeps (fun _ => False) wn W) (k : Nat) (y : Rf) (hy : ns[k]? = some y) => (show W.cell? ⟨gn, k * 2, none⟩ = some (.int .i64 y.s) ∧ W.cell? ⟨gn, k * 2 + 1, none⟩ = some (.int .u32 y.g) from by
        obtain ⟨g', e1, _, c0, c1⟩ := (HNR.out.refs.keeps hk (fun _ _ h => h)).cell.2 k y hy
        obtain rfl : gn = g' := by injection e1 with e1; injection e1
        exact ⟨c0, c1⟩))
      clear hwn hns hws HNR HBq b0 b1 bl hc15 hc17 KQ HQ
      go_loopw [135] (fun ix wr => ∃ k : Nat, k ≤ 3 ∧ ix = .int .i64 k ∧ Hid (Keeps (fun _ => False) wn wr)) (fun ix _ => 3 - (intOf ix).toNat)
      case atStart => exact ⟨0, Nat.zero_le _, rfl, hid (Keeps.refl _ _)⟩
      case round =>
        obtain ⟨k, hk, rfl, HK⟩ := hrel
        have hk0 : (0 : Int) ≤ k := by omega
        by_cases hlt : k < 3
        · have hlt' : (k : Int) < (3 : Int) := by omega
          obtain ⟨y, hy⟩ : ∃ y, ns[k]? = some y := ⟨_, List.getElem?_eq_getElem (by rw [HNL.out]; exact hlt)⟩
          have hyw := HWF.out y (List.mem_of_getElem? hy)
          obtain ⟨c0, c1⟩ := HNC.out wr HK.out k y hy
          have HIS := hid (fun W (h : Bo wb.heap.size wb W (.pointer none) (.pointer none) O) => h.pis y hyw)
          have HIT := hid (fun W (h : Bo wb.heap.size wb W (.pointer none) (.pointer none) O) => h.dis y)
          have HPA := hid (fun W (h : Bo wb.heap.size wb W (.pointer none) (.pointer none) O) => h.ppath y hyw)
          have HPB := hid (fun W (h : Bo wb.heap.size wb W (.pointer none) (.pointer none) O) => h.dpath y)
          have HDA := hid (fun W (h : Bo wb.heap.size wb W (.pointer none) (.pointer none) O) => h.pdep y hyw)
          have HDB := hid (fun W (h : Bo wb.heap.size wb W (.pointer none) (.pointer none) O) => h.ddep y)
          have hwl := HLN.out.2.2 y
          obtain ⟨bI, hI⟩ : ∃ b, oIs O y = b := ⟨_, rfl⟩
          obtain ⟨cE, hE⟩ : ∃ b, oCk O y = b := ⟨_, rfl⟩
          obtain ⟨wy, hW⟩ : ∃ b, oWay O y = b := ⟨_, rfl⟩
          obtain ⟨dd, hD⟩ : ∃ b, oDep O y = b := ⟨_, rfl⟩
          rw [hI, hE] at HIS HIT
          rw [hI, hE, hW] at HPA HPB
          rw [hI, hE, hD] at HDA HDB
          rw [hW] at hwl
          obtain ⟨wz, hwz⟩ : ∃ wz, wr.alloc (.cells #[.int .i64 y.s, .int .u32 y.g] 41) = wz := ⟨_, rfl⟩
          have kz : Keeps (fun _ => False) wr wz := by rw [← hwz]; exact (Keeps.refl _ _).alloc _
          have HZ := hid (HBn.out.quiet (HK.out.trans kz))
          have KZ := hid (HK.out.trans kz)
          have HQ0 := hid (show wz.heap[wr.heap.size]? = some (.cells #[.int .i64 y.s, .int .u32 y.g] 41) from by rw [← hwz]; exact alloc_new)
          have HWZ := hid hwz
          obtain ⟨z0, z1, _, zl⟩ := cells2 HQ0.out
          clear hy hyw hI hE hW hD hwz kz
          go_upto_region 23 with (fail)
          rw [HWZ.out]
          go_wp2_with fail
          refine (HIS.out _ HZ.out).mono ?_
          rintro e w21 ⟨rfl, k21⟩
          have HB21 := hid (HZ.out.quiet k21)
          have K21 := hid (KZ.out.trans k21)
          have HQ1 := hid (block_keep HQ0.out k21 (fun h => h))
          clear z0 z1 zl c0 c1 k21
          obtain ⟨z0, z1, _, zl⟩ := cells2 HQ1.out
          go_wp2_with fail
          refine (HIT.out _ HB21.out).mono ?_
          rintro e w22 ⟨rfl, k22⟩
          have HB22 := hid (HB21.out.quiet k22)
          have K22 := hid (K21.out.trans k22)
          have HQ2 := hid (block_keep HQ1.out k22 (fun h => h))
          clear z0 z1 zl k22
          obtain ⟨z0, z1, _, zl⟩ := cells2 HQ2.out
          go_wp2_with fail
          refine (HPA.out _ HB22.out).mono ?_
          rintro e w23 ⟨v28, rfl, hr28, k23⟩
          have HB23 := hid (HB22.out.quiet k23)
          have K23 := hid (K22.out.trans k23)
          have HQ3 := hid (block_keep HQ2.out k23 (fun h => h))
          have HR28 := hid hr28.refs
          clear z0 z1 zl k23 hr28
          obtain ⟨z0, z1, _, zl⟩ := cells2 HQ3.out
          go_wp2_with fail
          refine (HPB.out _ HB23.out).mono ?_
          rintro e w24 ⟨v31, rfl, hr31, k24⟩
          have HB24 := hid (HB23.out.quiet k24)
          have K24 := hid (K23.out.trans k24)
          have HQ4 := hid (block_keep HQ3.out k24 (fun h => h))
          have HR28b := hid (HR28.out.keeps k24 (fun _ _ h => h))
          have HR31 := hid hr31.refs
          clear z0 z1 zl k24 hr31 HR28
          obtain ⟨z0, z1, _, zl⟩ := cells2 HQ4.out
          go_wp2_with fail
          refine (HDA.out _ HB24.out).mono ?_
          rintro e w25 ⟨rfl, k25⟩
          have HB25 := hid (HB24.out.quiet k25)
          have K25 := hid (K24.out.trans k25)
          have HQ5 := hid (block_keep HQ4.out k25 (fun h => h))
          have HR28c := hid (HR28b.out.keeps k25 (fun _ _ h => h))
          have HR31c := hid (HR31.out.keeps k25 (fun _ _ h => h))
          clear z0 z1 zl k25 HR28b HR31
          obtain ⟨z0, z1, _, zl⟩ := cells2 HQ5.out
          go_wp2_with fail
          refine (HDB.out _ HB25.out).mono ?_
          rintro e w26 ⟨rfl, k26⟩
          have K26 := hid (K25.out.trans k26)
          have HEQ := hid (requal v28 v31 wy wy w26 (HR28c.out.keeps k26 (fun _ _ h => h)) (HR31c.out.keeps k26 (fun _ _ h => h)) hwl)
          rw [decide_eq_true rfl] at HEQ
          clear z0 z1 zl k26 HR28c HR31c
          go_wp2_with fail
          refine HEQ.out.mono ?_
          rintro e w27 ⟨rfl, k27⟩
          have K27 := hid (K26.out.trans k27)
          clear k27
          go_wp2_with fail
          exact ⟨⟨k + 1, by omega, by go_num, K27⟩, by simp [intOf]; omega⟩
        · obtain rfl : k = 3 := by omega
          have HBe := hid (HBn.out.quiet HK.out)
          go_wp2_with fail
          go_ret
          exact ⟨rfl, KB.out.trans HBe.out.k.fresh⟩
    · have hn' : 1 ≤ n ∧ n ≤ 256 ∧ 1 ≤ m ∧ m ≤ 4 ∧ 1 ≤ g := by omega
      clear hn
      obtain ⟨n, rfl⟩ : ∃ k : Nat, n = k := ⟨n.toNat, by omega⟩
      obtain ⟨m, rfl⟩ : ∃ k : Nat, m = k := ⟨m.toNat, by omega⟩
      have HA := hid (fun W => Ay.newg n m g W (by omega) (by omega) (by omega) (by omega) (by omega) hg)
      have HD := hid (fun W => new18_ok (w := W) n m g (by omega) (by omega) (by omega) (by omega) (by omega) hg)
      have b60 : ls.length ≤ 60 := by omega
      clear b1 hn'
      go_enter Tryz.func4, Tryz.ntmps4
      go_wp2_with fail
      rw [HWB.out]
      refine (HA.out _).mono ?_
      rintro e w1a ⟨a, LA, rfl, h1⟩
      have HA1 := hid h1
      clear h1
      go_wp2_with fail
      refine (HD.out _).mono ?_
      rintro e w1b ⟨x, LR, rfl, k2, lx, lb, hR⟩
      have hp2 : Pr wb.heap.size wb w1b a LA x (Ar.new n m g) (Ar.new n m g) := by
        have hs := HA1.out.k.size
        exact ⟨HA1.out.quiet k2, by omega, LR, by omega, hR⟩
      have HP2 := hid hp2
      clear k2 lx lb hR hp2 HA1
      go_wp2_with fail
      refine (build19 _ ls HP2.out H3.out b60).mono ?_
      rintro e w2 ⟨rfl, A, h3⟩
      have HP3 := hid h3
      have HQ := hid (block_keep HQB.out h3.ay.k (fun h => by have := HLB.out; omega))
      have HB := hid (show Bo wb.heap.size wb w2 (.pointer (some ⟨a, 0, none⟩)) (.pointer (some ⟨x, 0, none⟩)) (some A) from ⟨a, LA, x, rfl, rfl, h3⟩)
      obtain ⟨O, hO⟩ : ∃ O : Option Ar, some A = O := ⟨_, rfl⟩
      rw [hO] at HB
      have HLN := hid HB.out.len
      clear h3 hO HP2 b60
      go_wp2_with fail
      refine (HB.out.pall).mono ?_
      rintro e w5 ⟨v15, rfl, hr15, k5⟩
      have HB5 := hid (HB.out.quiet k5)
      have K5 := hid k5
      have HR15 := hid hr15
      clear k5 hr15
      go_wp2_with fail
      refine (HB5.out.dall).mono ?_
      rintro e w6 ⟨v16, rfl, hr16, k6⟩
      have HB6 := hid (HB5.out.quiet k6)
      have K6 := hid (K5.out.trans k6)
      have HR15b := hid (HR15.out.keeps k6 (fun _ _ _ _ h => h))
      have HR16 := hid hr16.refs
      clear k6 hr16 HR15
      go_wp2_with fail
      refine (HB6.out.plost).mono ?_
      rintro e w7 ⟨v17, rfl, hr17, k7⟩
      have HB7 := hid (HB6.out.quiet k7)
      have K7 := hid (K6.out.trans k7)
      have HR15c := hid (HR15b.out.keeps k7 (fun _ _ _ _ h => h))
      have HR16c := hid (HR16.out.keeps k7 (fun _ _ h => h))
      have HR17 := hid hr17
      have HNE := hid (show ∀ k, v17.ownBlock = some k → ¬ v15.ownBlock = some k from fun k h1 h2 => by
        have := (hr17.lt k h1).1
        have := (HR15b.out.lt k h2).2
        omega)
      clear k7 hr17 HR15b HR16
      go_wp2_with fail
      refine (HB7.out.dlost).mono ?_
      rintro e w8 ⟨v19, rfl, hr19, k8⟩
      have HB8 := hid (HB7.out.quiet k8)
      have K8 := hid (K7.out.trans k8)
      have HR15d := hid (HR15c.out.keeps k8 (fun _ _ _ _ h => h))
      have HR17d := hid (HR17.out.keeps k8 (fun _ _ _ _ h => h))
      have HEQ := hid (requal v15 v16 (oAll O) (oAll O) w8 HR15d.out.refs (HR16c.out.keeps k8 (fun _ _ h => h)) HLN.out.1)
      rw [decide_eq_true rfl] at HEQ
      have HR19 := hid hr19.refs
      have HEQ2 := hid (fun W (hk : Keeps (fun _ => False) w8 W) => requal v17 v19 (oLost O) (oLost O) W (HR17d.out.refs.keeps hk (fun _ _ h => h)) (HR19.out.keeps hk (fun _ _ h => h)) HLN.out.2.1)
      rw [decide_eq_true rfl] at HEQ2
      clear k8 hr19 HR15c HR17 HR16c
      go_wp2_with fail
      refine HEQ.out.mono ?_
      rintro e w9 ⟨rfl, k9⟩
      go_wp2_with fail
      refine (HEQ2.out _ k9).mono ?_
      rintro e w10 ⟨rfl, k10⟩
      obtain ⟨W15, hc15, kc15⟩ := run_clear_row (HR15d.out.keeps (k9.trans k10) (fun _ _ _ _ h => h))
      obtain ⟨W17, hc17, kc17⟩ := run_clear_row ((HR17d.out.keeps (k9.trans k10) (fun _ _ _ _ h => h)).keeps kc15 (fun k _ _ h1 h2 => HNE.out k h1 h2))
      have kq : Keeps (fun _ => False) w2 W17 := ((K8.out.trans (k9.trans k10)).trans' kc15 (U := fun _ => False) (fun _ _ h => h) (fun y hy hz => by have := (HR15d.out.lt y hz).1; omega)).trans' kc17 (U := fun _ => False) (fun _ _ h => h) (fun y hy hz => by have := (HR17d.out.lt y hz).1; have := K6.out.size; omega)
      have HBq := hid (HB.out.quiet kq)
      have KQ := hid kq
      obtain ⟨b0, b1, _, bl⟩ := cells2 (block_keep HQ.out kq (fun h => h))
      clear k9 k10 kc15 kc17 kq HEQ HEQ2 HNE HR15d HR17d HR19 HB5 HB6 HB7 HB8 K5 K6 K7 K8
      go_wp2_with fail
      have HPq := hid (HP3.out.quiet KQ.out)
      have hok := HPq.out.ay.ok
      have htl : A.H.T.tk.length ≤ 256 := Nat.le_trans (tk_len _) hok.n2
      have HTW := hid (show ∀ y ∈ A.H.T.tk, y.Wf from fun y hy => there_wf hok (tkm.1 hy))
      have HRW := hid (row_three (a := r) (b := .no) (c := ⟨r.s, 0⟩) (alloc_new (w := W17) (o := .cells #[.int .i64 r.s, .int .u32 r.g, .int .i64 0, .int .u32 0, .int .i64 r.s, .int .u32 0] 41)) (Nat.le_refl _))
      obtain ⟨wm, hwm⟩ : ∃ wm, W17.alloc (.cells #[.int .i64 r.s, .int .u32 r.g, .int .i64 0, .int .u32 0, .int .i64 r.s, .int .u32 0] 41) = wm := ⟨_, rfl⟩
      have km : Keeps (fun _ => False) W17 wm := by rw [← hwm]; exact (Keeps.refl _ _).alloc _
      have KM := hid km
      rw [hwm] at HRW ⊢
      have hR := HPq.out.quiet km
      obtain ⟨LR, _, hR⟩ := hR.doc
      obtain ⟨gm, hws⟩ : ∃ gm, W17.heap.size = gm := ⟨_, rfl⟩
      have HGM := hid hws
      rw [hws] at HRW ⊢
      clear hok km hwm hc15 hc17 b0 b1 bl hws
      refine (heap18 hR).mono ?_
      rintro e w11 ⟨b11, t11, rfl, k11, _, _, hh11⟩
      have K11 := hid (KM.out.trans k11)
      have HR11 := hid (HRW.out.keeps k11 (fun _ _ _ _ h => h))
      have HAA := hid (all14 hh11)
      clear k11 hh11 hR HRW
      go_wp2_with fail
      refine HAA.out.mono ?_
      rintro e w12 ⟨v131, rfl, hr131, k12⟩
      obtain ⟨p131, c131, rfl⟩ := hr131.refs.slice
      have K12 := hid (K11.out.trans k12)
      have HV := hid (HR11.out.keeps k12 (fun _ _ _ _ h => h))
      have HR131 := hid hr131.refs
      have hs12 := K12.out.size
      have hs12' : gm ≤ w12.heap.size := by rw [← HGM.out]; exact hs12
      obtain ⟨tk, htk⟩ : ∃ tk, A.H.T.tk = tk := ⟨_, rfl⟩
      rw [htk] at HR131 htl HTW ⊢
      have HTK := hid htk
      clear k12 hr131 HR11 hs12 htk
      go_wp2_with (first
        | (at_builtin; refine wpList_append_refs _ rfl _ _ rfl gm _ _ [r, .no, ⟨r.s, 0⟩] tk rfl rfl HV.out HR131.out (by simp; omega) (by omega) ?_; intro v21 wn hr21 hk21 ho21; obtain ⟨ns, hns⟩ : ∃ ns : List Rf, [r, .no, ⟨r.s, 0⟩] ++ tk = ns := ⟨_, rfl⟩; rw [hns] at hr21; obtain ⟨p21, c21, rfl⟩ := hr21.refs.slice; obtain ⟨nn, hnl⟩ : ∃ nn, ns.length = nn := ⟨_, rfl⟩; rw [hnl] at hr21 ⊢; clear ho21; have HNS := hid (And.intro hns hnl); clear hns hnl)
        | fail)
      have HNR := hid hr21
      have HKN := hid (show Keeps (fun _ => False) W17 wn from K12.out.trans' hk21 (fun _ _ h => h) (fun y hy hz => by have := (HV.out.lt y hz).1; have := HGM.out; omega))
      have HBn := hid (HBq.out.quiet HKN.out)
      have HPn := hid (HPq.out.quiet HKN.out)
      have HWF := hid (show ∀ y ∈ ns, y.Wf from by
        rw [← HNS.out.1]
        intro y hy
        rcases List.mem_append.1 hy with hy | hy
        · simp only [List.mem_cons, List.not_mem_nil, or_false] at hy
          rcases hy with rfl | rfl | rfl
          · exact HWR.out
          · exact ⟨Int.le_refl _, by show (0 : Int) ≤ 4294967295; decide⟩
          · exact ⟨Int.le_refl _, by show (0 : Int) ≤ 4294967295; decide⟩
        · exact HTW.out y hy)
      have h0 : ns[0]? = some r := by rw [← HNS.out.1]; rfl
      have HNL := hid HNS.out.2
      have hnn : nn ≤ 300 := by rw [← HNS.out.2, ← HNS.out.1]; simp; omega
      obtain ⟨gn, e1, _, _, _⟩ := HNR.out.refs.cell.2 0 r h0
      subst e1
      have HNC := hid (fun W (hk : Keeps (fun _ => False) wn W) (k : Nat) (y : Rf) (hy : ns[k]? = some y) => (show W.cell? ⟨gn, k * 2, none⟩ = some (.int .i64 y.s) ∧ W.cell? ⟨gn, k * 2 + 1, none⟩ = some (.int .u32 y.g) from by
        obtain ⟨g', e1, _, c0, c1⟩ := (HNR.out.refs.keeps hk (fun _ _ h => h)).cell.2 k y hy
        obtain rfl : gn = g' := by injection e1 with e1; injection e1
        exact ⟨c0, c1⟩))
      clear h0 hr21 hk21 HNR HKN HV HR131 HPq HBq K11 K12 KM KQ HB HQ HAA
      go_loopw [135] (fun ix wr => ∃ k : Nat, k ≤ nn ∧ ix = .int .i64 k ∧ Hid (Keeps (fun _ => False) wn wr)) (fun ix _ => nn - (intOf ix).toNat)
      case atStart => exact ⟨0, Nat.zero_le _, rfl, hid (Keeps.refl _ _)⟩
      case round =>
        obtain ⟨k, hk, rfl, HK⟩ := hrel
        have hk0 : (0 : Int) ≤ k := by omega
        by_cases hlt : k < nn
        · have hlt' : (k : Int) < (nn : Int) := by omega
          obtain ⟨y, hy⟩ : ∃ y, ns[k]? = some y := ⟨_, List.getElem?_eq_getElem (by rw [HNL.out]; exact hlt)⟩
          have hyw := HWF.out y (List.mem_of_getElem? hy)
          obtain ⟨c0, c1⟩ := HNC.out wr HK.out k y hy
          have HIS := hid (fun W (h : Bo wb.heap.size wb W (.pointer (some ⟨a, 0, none⟩)) (.pointer (some ⟨x, 0, none⟩)) O) => h.pis y hyw)
          have HIT := hid (fun W (h : Bo wb.heap.size wb W (.pointer (some ⟨a, 0, none⟩)) (.pointer (some ⟨x, 0, none⟩)) O) => h.dis y)
          have HPA := hid (fun W (h : Bo wb.heap.size wb W (.pointer (some ⟨a, 0, none⟩)) (.pointer (some ⟨x, 0, none⟩)) O) => h.ppath y hyw)
          have HPB := hid (fun W (h : Bo wb.heap.size wb W (.pointer (some ⟨a, 0, none⟩)) (.pointer (some ⟨x, 0, none⟩)) O) => h.dpath y)
          have HDA := hid (fun W (h : Bo wb.heap.size wb W (.pointer (some ⟨a, 0, none⟩)) (.pointer (some ⟨x, 0, none⟩)) O) => h.pdep y hyw)
          have HDB := hid (fun W (h : Bo wb.heap.size wb W (.pointer (some ⟨a, 0, none⟩)) (.pointer (some ⟨x, 0, none⟩)) O) => h.ddep y)
          have hwl := HLN.out.2.2 y
          obtain ⟨bI, hI⟩ : ∃ b, oIs O y = b := ⟨_, rfl⟩
          obtain ⟨cE, hE⟩ : ∃ b, oCk O y = b := ⟨_, rfl⟩
          obtain ⟨wy, hW⟩ : ∃ b, oWay O y = b := ⟨_, rfl⟩
          obtain ⟨dd, hD⟩ : ∃ b, oDep O y = b := ⟨_, rfl⟩
          rw [hI, hE] at HIS HIT
          rw [hI, hE, hW] at HPA HPB
          rw [hI, hE, hD] at HDA HDB
          rw [hW] at hwl
          obtain ⟨wz, hwz⟩ : ∃ wz, wr.alloc (.cells #[.int .i64 y.s, .int .u32 y.g] 41) = wz := ⟨_, rfl⟩
          have kz : Keeps (fun _ => False) wr wz := by rw [← hwz]; exact (Keeps.refl _ _).alloc _
          have HZ := hid (HBn.out.quiet (HK.out.trans kz))
          have KZ := hid (HK.out.trans kz)
          have HQ0 := hid (show wz.heap[wr.heap.size]? = some (.cells #[.int .i64 y.s, .int .u32 y.g] 41) from by rw [← hwz]; exact alloc_new)
          have HWZ := hid hwz
          obtain ⟨z0, z1, _, zl⟩ := cells2 HQ0.out
          clear hy hyw hI hE hW hD hwz kz
          go_upto_region 23 with (fail)
          rw [HWZ.out]
          go_wp2_with fail
          refine (HIS.out _ HZ.out).mono ?_
          rintro e w21 ⟨rfl, k21⟩
          have HB21 := hid (HZ.out.quiet k21)
          have K21 := hid (KZ.out.trans k21)
          have HQ1 := hid (block_keep HQ0.out k21 (fun h => h))
          clear z0 z1 zl c0 c1 k21
          obtain ⟨z0, z1, _, zl⟩ := cells2 HQ1.out
          go_wp2_with fail
          refine (HIT.out _ HB21.out).mono ?_
          rintro e w22 ⟨rfl, k22⟩
          have HB22 := hid (HB21.out.quiet k22)
          have K22 := hid (K21.out.trans k22)
          have HQ2 := hid (block_keep HQ1.out k22 (fun h => h))
          clear z0 z1 zl k22
          obtain ⟨z0, z1, _, zl⟩ := cells2 HQ2.out
          go_wp2_with fail
          refine (HPA.out _ HB22.out).mono ?_
          rintro e w23 ⟨v28, rfl, hr28, k23⟩
          have HB23 := hid (HB22.out.quiet k23)
          have K23 := hid (K22.out.trans k23)
          have HQ3 := hid (block_keep HQ2.out k23 (fun h => h))
          have HR28 := hid hr28.refs
          clear z0 z1 zl k23 hr28
          obtain ⟨z0, z1, _, zl⟩ := cells2 HQ3.out
          go_wp2_with fail
          refine (HPB.out _ HB23.out).mono ?_
          rintro e w24 ⟨v31, rfl, hr31, k24⟩
          have HB24 := hid (HB23.out.quiet k24)
          have K24 := hid (K23.out.trans k24)
          have HQ4 := hid (block_keep HQ3.out k24 (fun h => h))
          have HR28b := hid (HR28.out.keeps k24 (fun _ _ h => h))
          have HR31 := hid hr31.refs
          clear z0 z1 zl k24 hr31 HR28
          obtain ⟨z0, z1, _, zl⟩ := cells2 HQ4.out
          go_wp2_with fail
          refine (HDA.out _ HB24.out).mono ?_
          rintro e w25 ⟨rfl, k25⟩
          have HB25 := hid (HB24.out.quiet k25)
          have K25 := hid (K24.out.trans k25)
          have HQ5 := hid (block_keep HQ4.out k25 (fun h => h))
          have HR28c := hid (HR28b.out.keeps k25 (fun _ _ h => h))
          have HR31c := hid (HR31.out.keeps k25 (fun _ _ h => h))
          clear z0 z1 zl k25 HR28b HR31
          obtain ⟨z0, z1, _, zl⟩ := cells2 HQ5.out
          go_wp2_with fail
          refine (HDB.out _ HB25.out).mono ?_
          rintro e w26 ⟨rfl, k26⟩
          have K26 := hid (K25.out.trans k26)
          have HEQ := hid (requal v28 v31 wy wy w26 (HR28c.out.keeps k26 (fun _ _ h => h)) (HR31c.out.keeps k26 (fun _ _ h => h)) hwl)
          rw [decide_eq_true rfl] at HEQ
          clear z0 z1 zl k26 HR28c HR31c
          go_wp2_with fail
          refine HEQ.out.mono ?_
          rintro e w27 ⟨rfl, k27⟩
          have K27 := hid (K26.out.trans k27)
          clear k27
          go_wp2_with fail
          exact ⟨⟨k + 1, by omega, by go_num, K27⟩, by simp [intOf]; omega⟩
        · obtain rfl : k = nn := by omega
          have HPe := hid (HPn.out.quiet HK.out)
          have HTL := hid htl
          clear htl hnn hlt hk HLN
          go_wp2_with fail
          refine (aheap_ok a LA A _ HPe.out.ay.ar).mono ?_
          rintro e w31 ⟨b31, t31, rfl, k31, _, _, hh31⟩
          have HP31 := hid (HPe.out.quiet k31)
          have HPA := hid (hall_ok b31 t31 A.H w31 hh31)
          clear k31 hh31
          go_wp2_with fail
          refine HPA.out.mono ?_
          rintro e w32 ⟨v224, rfl, hr224, k32⟩
          have HP32 := hid (HP31.out.quiet k32)
          have HR224 := hid hr224.refs
          obtain ⟨LR32, _, hR32⟩ := HP32.out.doc
          clear k32 hr224
          go_wp2_with fail
          refine (heap18 hR32).mono ?_
          rintro e w33 ⟨b33, t33, rfl, k33, _, _, hh33⟩
          have HP33 := hid (HP32.out.quiet k33)
          have HR224b := hid (HR224.out.keeps k33 (fun _ _ h => h))
          have HAA := hid (all14 hh33)
          clear k33 hh33 hR32
          go_wp2_with fail
          refine HAA.out.mono ?_
          rintro e w34 ⟨v227, rfl, hr227, k34⟩
          have HP34 := hid (HP33.out.quiet k34)
          have HEQ := hid (requal v224 v227 A.H.T.tk A.H.T.tk w34 (HR224b.out.keeps k34 (fun _ _ h => h)) hr227.refs (by have := HTL.out; have := HTK.out; rw [this]; omega))
          rw [decide_eq_true rfl] at HEQ
          clear k34 hr227
          go_wp2_with fail
          refine HEQ.out.mono ?_
          rintro e w35 ⟨rfl, k35⟩
          have HP35 := hid (HP34.out.quiet k35)
          clear k35
          go_wp2_with fail
          refine (HW.out _).mono ?_
          rintro e w36 ⟨rfl, k36⟩
          have HP36 := hid (HP35.out.quiet k36)
          clear k36
          go_wp2_with fail
          go_ret
          exact ⟨rfl, KB.out.trans HP36.out.ay.k.fresh⟩
set_option maxRecDepth 100000 in
theorem reachAll_law {H : Type} {enc : TypeId × Value → H} {base : Nat} {spare : Nat → Bool} {held : Bool} {r : Reach} {b0 : Nat}
    (a0 : Int) (w0 : (Lit.int .i64 a0).wf = true) (a1 : Int) (w1 : (Lit.int .i64 a1).wf = true) (a2 : Int) (w2 : (Lit.int .u32 a2).wf = true) {w : World}
    (v3 : Value) (d3 : DataW H) (p3 : List MemPlace) (hv3 : Value.okWide Tryz.prog w r b0 22 v3) (h3 : DataW.Trod enc Tryz.prog w base spare held 22 v3 d3 p3)
    (v4 : Value) (d4 : DataW H) (p4 : List MemPlace) (hv4 : Value.okWide Tryz.prog w r b0 41 v4) (h4 : DataW.Trod enc Tryz.prog w base spare held 41 v4 d4 p4)
    (w' : World) (e' : w' = w) :
    Calls Tryz.prog 4 #[.int .i64 a0, .int .i64 a1, .int .u32 a2, v3, v4] w' fun e w2 => e = .returned (.bool true) ∧ Keeps (fun _ => False) w' w2 := by
  subst e'
  obtain ⟨a, n1, k1, rfl, e1, e2, hx⟩ := open_flat_slice (ks := ksStep) Tryz.underlying22 (by kernel_rfl) (by kernel_rfl) (by decide) hv3 h3
  obtain ⟨ls, hl⟩ := sprow_of e1 e2 hx
  obtain ⟨s, g, rfl, _, hg⟩ := ref_of Tryz.underlying41 (by kernel_rfl) (by kernel_rfl) hv4 h4
  exact reachAll_walk a0 a1 a2 _ ls ⟨s, g⟩ _ hl (bounds_u32 w2).2 (bounds_u32 hg)
end Go.Proofs.YtkpnmajocgcccaaGreat
