/- estraylaw25: reached, just what can be reached. -/
import Derived.Test.YtehmoikbeflkaaaGreatScB
namespace Go.Proofs.YtehmoikbeflkaaaGreat
open Go.RowKit
set_option linter.unusedVariables false
set_option linter.unusedSimpArgs false

set_option maxRecDepth 100000 in
set_option maxHeartbeats 4000000 in
theorem reached25x (a : Nat) (LA : ArL) (A : Ar) (w : World) (h : ArIn w a LA A) (hok : A.Ok) (nd : Nd A) :
    Calls Tryz.prog 58 #[.pointer (some ⟨a, 0, none⟩)] w fun e w' => ∃ v, e = .returned v ∧ ∃ l, Row w' w.heap.size v l ∧ l.Nodup ∧ (∀ r, r ∈ l ↔ Rch A r) ∧ l.length ≤ 256 ∧ Keeps (fun _ => False) w w' := by
  have HA := hid (fun W (hk : Keeps (fun _ => False) w W) => h.keeps0 hk)
  have HOK := hid hok; have HND := hid nd
  have hm1 := h.m1; have hm4 := h.m4
  have hmx : ¬ (4 : Int) < (A.many : Int) := by omega
  clear h hok nd
  go_enter Tryz.func58, Tryz.ntmps58
  go_wp2_with fail
  refine (asizes_ok a LA A w (HA.out _ (Keeps.refl _ _))).mono ?_
  rintro e w1 ⟨rfl, k1⟩
  have HK1 := hid k1
  clear k1
  go_wp2_with fail
  refine (aglobals_row a LA A w1 (HA.out _ HK1.out)).mono ?_
  rintro e w2 ⟨v0, rfl, hr2, k2⟩
  have HK2 := hid (HK1.out.trans k2); have HR2 := hid (hr2.mono HK1.out.size)
  clear hr2 k2 HK1
  go_wp2_with fail
  go_loopw [5, 25] (fun s5 ix wr => ∃ (k : Nat) (l : List Rf) (c : Nat) (p : Option Addr), k ≤ A.many ∧ ix = .int .i64 k ∧ s5 = .slice p l.length c ∧ Hid (Row wr w.heap.size (.slice p l.length c) l) ∧ Hid (Gath A l ∧ (∀ r ∈ A.glL, r ∈ l) ∧ ∀ j, j < k → ∀ r ∈ (A.rt j).l, r ∈ l) ∧ l.length ≤ 8 + 32 * k ∧ Hid (Keeps (fun _ => False) w wr)) (fun _ ix _ => A.many - (intOf ix).toNat)
  case atStart =>
    obtain ⟨p, c, rfl⟩ := HR2.out.refs.slice
    refine ⟨0, A.glL, c, p, Nat.zero_le _, rfl, rfl, HR2, hid ⟨gath_gl A, fun r hr => hr, fun j hj => absurd hj (Nat.not_lt_zero _)⟩, ?_, HK2⟩
    have h1 : A.glL.length ≤ ((List.range 8).map A.gl).length := List.length_filter_le _ _
    simpa using h1
  case round =>
    obtain ⟨k, l, c, p, hk, rfl, rfl, HRl, HGl, hll, HKr⟩ := hrel
    by_cases hlt : k < A.many
    · have hlt' : (k : Int) < (A.many : Int) := by omega
      have hk0 : (0 : Int) ≤ k := by omega
      have hrn := (HOK.out.rt k hlt).1
      go_wp2_with fail
      refine (astackall_ok a LA A k wr (HA.out _ HKr.out) hlt).mono ?_
      rintro e w3 ⟨v7, rfl, hr7, k3⟩
      have HR3 := hid (HRl.out.keeps k3 (fun _ _ _ _ h => h)); have HR7 := hid hr7.refs; have HK3 := hid (HKr.out.trans k3)
      have HGR := hid (gath_rt A hlt)
      have hlr : (A.rt k).l.length = (A.rt k).n := by simp [Sk.l]
      clear hr7 k3
      go_wp2_with (first
        | (at_builtin; refine wpList_append_refs _ rfl _ _ rfl w.heap.size _ _ l (A.rt k).l rfl rfl HR3.out HR7.out (by omega) HK3.out.size ?_; intro v9 w9 hr9 hk9 ho9)
        | fail)
      obtain ⟨p9, c9, rfl⟩ := hr9.refs.slice
      refine ⟨⟨k + 1, l ++ (A.rt k).l, c9, p9, by omega, by go_num, rfl, hr9, hid ⟨HGl.out.1.append HGR.out, fun r hr => List.mem_append_left _ (HGl.out.2.1 r hr), fun j hj r hr => ?_⟩, by rw [List.length_append]; omega, ?_⟩, by simp [intOf]; omega⟩
      · rcases Nat.lt_succ_iff_lt_or_eq.1 hj with hj | rfl
        · exact List.mem_append_left _ (HGl.out.2.2 j hj r hr)
        · exact List.mem_append_right _ hr
      · exact hid (HK3.out.trans' hk9 (fun _ _ h => h) (fun y hy hz => by have := (HR3.out.lt y hz).1; omega))
    · have hlt' : ¬ (k : Int) < (A.many : Int) := by omega
      obtain ⟨wo, rfl⟩ : ∃ wo : World, wo = wr := ⟨_, rfl⟩
      have hl136 : l.length ≤ 136 := by omega
      have HO0 := hid (show Out A l [] 0 from ⟨HGl.out.1, List.nodup_nil, fun r => (by simp), fun r hr => absurd hr List.not_mem_nil, (by simp; omega), HGl.out.2.1, fun j hj => HGl.out.2.2 j (by omega)⟩)
      clear hlt hll HGl
      have hmm : Sem.run Tryz.prog (Instr.makeMap 225 none) wo = .ok (.map (some wo.heap.size)) (wo.alloc (.map #[] 0)) := run_makeMap _ _
      go_wp2_with fail
      clear hlt' hmm
      obtain ⟨wm, hwm⟩ : ∃ wm, wo.alloc (.map #[] 0) = wm := ⟨_, rfl⟩
      have hnm : VMap wm wo.heap.size (MInt []) := by rw [← hwm]; exact VMap.made wo
      have hkm : Keeps (fun _ => False) wo wm := by rw [← hwm]; exact (Keeps.refl _ _).alloc _
      obtain ⟨bm, hbm⟩ : ∃ bm, wo.heap.size = bm := ⟨_, rfl⟩
      rw [hwm]
      rw [hbm] at hnm ⊢
      have hwbm : w.heap.size ≤ bm := by rw [← hbm]; exact HKr.out.size
      have HNM := hid hnm; have HKM := hid (HKr.out.trans hkm); have HRM := hid (HRl.out.keeps hkm (fun _ _ _ _ h => h))
      clear hwm hnm hkm hbm HRl HKr HR2 HK2
      go_loopw [5, 10, 11] (fun s5 s10 ix wr => ∃ (i : Nat) (l m : List Rf) (p q : Option Addr) (c d : Nat), i ≤ l.length ∧ ix = .int .i64 i ∧ s5 = .slice p l.length c ∧ s10 = .slice q m.length d ∧ Hid (Row wr w.heap.size (.slice p l.length c) l) ∧ Hid (Row wr w.heap.size (.slice q m.length d) m) ∧
        Hid (∀ y, (Value.slice p l.length c).ownBlock = some y → (Value.slice q m.length d).ownBlock ≠ some y) ∧ Hid (VMap wr bm (MInt m)) ∧ Hid (Out A l m i) ∧ Hid (Keeps (fun _ => False) w wr)) (fun _ _ ix _ => 5000 - (intOf ix).toNat)
      case atStart =>
        exact ⟨0, l, [], p, none, c, 0, Nat.zero_le _, rfl, rfl, rfl, HRM, hid (Row.nil _ _), hid (fun y _ h => by cases h), HNM, HO0, HKM⟩
      case round =>
        clear HO0
        obtain ⟨i, l, m, p, q, c, d, hi, rfl, rfl, rfl, HRl, HRm, HSP, HMP, HO, HKr⟩ := hrel
        have hi0 : (0 : Int) ≤ i := by omega
        obtain ⟨hml, hll⟩ := HO.out.mlen HND.out HOK.out.n2
        by_cases hl1 : i < l.length
        · have hl1' : (i : Int) < (l.length : Int) := by omega
          have hl2' : (i : Int) < 5000 := by omega
          obtain ⟨x, hx⟩ : ∃ x, l[i]? = some x := ⟨_, List.getElem?_eq_getElem hl1⟩
          obtain ⟨_, hcell⟩ := HRl.out.refs.cell
          obtain ⟨g, rfl, hg, c0, c1⟩ := hcell i x hx
          clear hcell
          have hRx := HO.out.gl x (List.mem_of_getElem? hx)
          have hxo := rch_ok HOK.out hRx
          have hlook := mint_look HMP.out hxo
          by_cases hxm : x ∈ m
          · rw [if_pos hxm] at hlook
            have HO2 := hid (HO.out.again hx hxm)
            clear hx
            go_wp2_with fail
            exact ⟨⟨i + 1, l, m, _, _, c, d, by omega, by go_num, rfl, rfl, HRl, HRm, HSP, HMP, HO2, HKr⟩, by simp [intOf]; omega⟩
          · rw [if_neg hxm] at hlook
            have HX := hid hx; have HXM := hid hxm
            obtain ⟨w3, hset, hnm3, hk3⟩ := mint_set HMP.out hxo hxm
            have HN3 := hid hnm3; have HK3 := hid hk3
            have HR3 := hid (HRl.out.keeps hk3 (fun y _ _ hy he => vmap_own HMP.out HRl.out (by rw [hy, he])))
            have HM3 := hid (HRm.out.keeps hk3 (fun y _ _ hy he => vmap_own HMP.out HRm.out (by rw [hy, he])))
            obtain ⟨_, hcell3⟩ := HR3.out.refs.cell
            clear hx hnm3 hk3 hxm
            obtain ⟨g3, eg, hg3, d0, d1⟩ := hcell3 i x HX.out
            obtain rfl : g = g3 := by injection eg with eg; injection eg
            clear hcell3 eg
            have HR4 := hid (HR3.out.keeps ((Keeps.refl (fun _ => False) _).alloc (.cells #[.int .i64 x.s, .int .u32 x.g] 33)) (fun _ _ _ _ h => h))
            have HM4 := hid (HM3.out.keeps ((Keeps.refl (fun _ => False) _).alloc (.cells #[.int .i64 x.s, .int .u32 x.g] 33)) (fun _ _ _ _ h => h))
            have HN4 := hid (HN3.out.keeps ((Keeps.refl (fun _ => False) _).alloc (.cells #[.int .i64 x.s, .int .u32 x.g] 33)) (fun h => h))
            have HK4 := hid (show Keeps (fun _ => False) w (w3.alloc (.cells #[.int .i64 x.s, .int .u32 x.g] 33)) from (HKr.out.trans' HK3.out (fun _ _ h => h) (fun y hy h => by omega)).alloc _)
            have HRO := hid (refs_one (alloc_new (w := w3) (o := .cells #[.int .i64 x.s, .int .u32 x.g] 33)))
            go_wp2_with (first
              | (at_builtin; refine wpList_append_refs _ rfl _ _ rfl w.heap.size (.slice q m.length d) _ m [x] rfl rfl HM4.out HRO.out (by simp; omega) HK4.out.size ?_; intro v5 w5 hr5 hk5 ho5; have HR5 := hid (HR4.out.keeps hk5 (fun y _ _ hy hm => HSP.out y hy hm)); obtain ⟨_, hcell5⟩ := HR5.out.refs.cell; obtain ⟨g5, eg, hg5, f0, f1⟩ := hcell5 i x HX.out; obtain rfl : g = g5 := (by injection eg with eg; injection eg); clear hcell5 eg)
              | fail)
            have HR6 := hid hr5; have HO5 := hid ho5
            have HN5 := hid (HN4.out.keeps hk5 (vmap_own HN4.out HM4.out))
            have HK5 := hid (show Keeps (fun _ => False) w w5 from HK4.out.trans' hk5 (fun _ _ h => h) (fun y hy hz => by have := (HM4.out.lt y hz).1; omega))
            clear hr5 hk5 ho5 d0 d1 c0 c1 hset hlook
            obtain ⟨o, ec, hoc, hcall⟩ := aobject_any a LA A x w5 (HA.out _ HK5.out)
            have hth := HND.out x hRx
            obtain ⟨rfl, ho⟩ : ec = 0 ∧ o = A.H.ob x.s.toNat := by
              rcases hoc with ⟨h1, _, h3⟩ | ⟨h1, h2, _⟩
              · exact ⟨h1, h3⟩
              · rw [show ckV A.H.T x.s x.g = 0 from hth] at h2
                first | (rw [← h2] at h1; simp at h1) | (rw [h2] at h1; simp at h1) | (exact absurd rfl h2) | (simp at h2; rw [← h2] at h1; simp at h1)
            have HCALL := hid hcall; have HTH := hid hth; have HOE := hid ho
            clear hoc hcall hth ho
            refine HCALL.out.mono ?_
            rintro e w6 ⟨rfl, k6⟩
            dsimp only [Ob.arr]
            obtain ⟨q5, d5, rfl⟩ := HR6.out.refs.slice
            have HSP5 := hid (show ∀ y, (Value.slice (some ⟨g, 0, none⟩) l.length c).ownBlock = some y → (Value.slice q5 (m ++ [x]).length d5).ownBlock ≠ some y from fun y hy hz => by
              rcases HO5.out with h | h
              · exact HSP.out y hy (by rw [← h]; exact hz)
              · rw [h] at hz
                have h1 := (HR4.out.lt y hy).2
                have h2 := Option.some.inj hz
                omega)
            have HRl6 := hid (HR5.out.keeps k6 (fun _ _ _ _ h => h)); have HRm6 := hid (HR6.out.keeps k6 (fun _ _ _ _ h => h)); have HN6 := hid (HN5.out.keeps k6 (fun h => h)); have HK6 := hid (HK5.out.trans k6)
            have hml6 : (m ++ [x]).length ≤ 257 := by simp; omega
            clear k6 HR5 HR6 HN5 HK5 HR4 HM4 HN4 HK4 HO5 HRO HRl HRm HSP HKr f0 f1
            have HMX := hid (fun l' (h : Out A l' (m ++ [x]) (i + 1)) => h)
            have HMORE := hid (fun (l' t : List Rf) (h1 : l' = l ++ t) (h2 : t.length ≤ 4) (h3 : Gath A l') (h4 : ∀ q, Edge A.H x.s.toNat q → q ∈ l') => HO.out.more HX.out HXM.out h1 h2 h3 h4)
            have HGL0 := hid HO.out.gl
            obtain ⟨m6, hm6⟩ : ∃ m6, m ++ [x] = m6 := ⟨_, rfl⟩
            rw [hm6] at HSP5 HRm6 hml6 HN6 HMORE ⊢
            clear hm6 HMX
            go_wp2_with fail
            have hidx : ∀ (j : Nat), j < 4 → ∀ W, Sem.run Tryz.prog (Instr.index 134 (.agg #[.int .i64 o.f0.s, .int .u32 o.f0.g, .int .i64 o.f1.s, .int .u32 o.f1.g, .int .i64 o.f2.s, .int .u32 o.f2.g, .int .i64 o.f3.s, .int .u32 o.f3.g]) (.int .i64 j)) W = .ok (.agg #[.int .i64 (o.fs j).s, .int .u32 (o.fs j).g]) W := fun j hj W => idx4 o hj W
            have HIDX := hid hidx
            clear hidx
            obtain ⟨w7, hw7⟩ : ∃ w7, w6.alloc (.cells #[.int .i64 o.n, .int .i64 o.f0.s, .int .u32 o.f0.g, .int .i64 o.f1.s, .int .u32 o.f1.g, .int .i64 o.f2.s, .int .u32 o.f2.g, .int .i64 o.f3.s, .int .u32 o.f3.g, .bool o.h] 136) = w7 := ⟨_, rfl⟩
            have hk7 : Keeps (fun _ => False) w6 w7 := by rw [← hw7]; exact (Keeps.refl _ _).alloc _
            rw [hw7]
            have HK7 := hid hk7
            have HGO := hid (show ∀ j, j < 4 → (o.fs j).nz = true → Rch A (o.fs j) from fun j hj hz => by
              obtain ⟨_, _, h3, h4, _⟩ := There.lt HTH.out
              rw [HOE.out] at hz ⊢
              exact .field hRx HTH.out ⟨h3, h4, hz, j, hj, rfl⟩)
            have HED := hid (show ∀ q, Edge A.H x.s.toNat q → ∃ j, j < 4 ∧ o.fs j = q ∧ q.nz = true from fun q ⟨_, _, hz, j, hj, e⟩ => ⟨j, hj, by rw [HOE.out]; exact e, hz⟩)
            clear hw7 hk7 HTH HOE
            go_loopw [5, 81] (fun s5 ix wr => ∃ (j : Nat) (l' t : List Rf) (p' : Option Addr) (c' : Nat), j ≤ 4 ∧ ix = .int .i64 j ∧ s5 = .slice p' l'.length c' ∧ Hid (Row wr w.heap.size (.slice p' l'.length c') l') ∧ Hid (Row wr w.heap.size (.slice q5 m6.length d5) m6) ∧
              Hid (∀ y, (Value.slice p' l'.length c').ownBlock = some y → (Value.slice q5 m6.length d5).ownBlock ≠ some y) ∧ Hid (VMap wr bm (MInt m6)) ∧ Hid (Gath A l' ∧ l' = l ++ t ∧ ∀ k, k < j → (o.fs k).nz = true → o.fs k ∈ l') ∧ t.length ≤ j ∧ l'.length ≤ 1164 ∧ Hid (Keeps (fun _ => False) w wr)) (fun _ ix _ => 4 - (intOf ix).toNat)
            case atStart =>
              exact ⟨0, l, [], _, c, Nat.zero_le _, rfl, rfl, hid (HRl6.out.keeps HK7.out (fun _ _ _ _ h => h)), hid (HRm6.out.keeps HK7.out (fun _ _ _ _ h => h)), HSP5, hid (HN6.out.keeps HK7.out (fun h => h)), hid ⟨HGL0.out, by simp, fun k hk => absurd hk (Nat.not_lt_zero _)⟩, Nat.zero_le _, by omega, hid (HK6.out.trans HK7.out)⟩
            case round =>
              obtain ⟨j, l', t, p', c', hj, rfl, rfl, HRl', HRm', HSP', HN', HGl', htl, hll', HKr'⟩ := hrel
              have htl' : l'.length = l.length + t.length := by rw [HGl'.out.2.1, List.length_append]
              by_cases hlt : j < 4
              · have hlt' : (j : Int) < 4 := by omega
                have hj0 : (0 : Int) ≤ j := by omega
                have hidx := HIDX.out j hlt
                have hgo := HGO.out j hlt
                obtain ⟨y, hy⟩ : ∃ y, o.fs j = y := ⟨_, rfl⟩
                rw [hy] at hidx hgo
                have hneq := fun W => neq_nz y W
                have HY := hid hy
                clear hy
                rcases hz : y.nz with _ | _
                · rw [hz] at hneq
                  have HZ := hid hz
                  clear hz hgo
                  go_wp2_with fail
                  refine ⟨⟨j + 1, l', t, p', c', by omega, by go_num, rfl, ?_, ?_, HSP', ?_, hid ⟨HGl'.out.1, HGl'.out.2.1, fun k hk hkz => ?_⟩, by omega, hll', hid (HKr'.out.alloc _)⟩, by simp [intOf]; omega⟩
                  · exact hid (HRl'.out.keeps ((Keeps.refl (fun _ => False) _).alloc _) (fun _ _ _ _ h => h))
                  · exact hid (HRm'.out.keeps ((Keeps.refl (fun _ => False) _).alloc _) (fun _ _ _ _ h => h))
                  · exact hid (HN'.out.keeps ((Keeps.refl (fun _ => False) _).alloc _) (fun h => h))
                  · rcases Nat.lt_succ_iff_lt_or_eq.1 hk with hk | rfl
                    · exact HGl'.out.2.2 k hk hkz
                    · rw [HY.out, HZ.out] at hkz; cases hkz
                · rw [hz] at hneq
                  have HGY := hid (hgo hz)
                  clear hz hgo
                  have hky : Keeps (fun _ => False) wr ((wr.alloc (.cells #[.int .i64 y.s, .int .u32 y.g] 33)).alloc (.cells #[.int .i64 y.s, .int .u32 y.g] 33)) := ((Keeps.refl (fun _ => False) _).alloc _).alloc _
                  have HRa := hid (HRl'.out.keeps hky (fun _ _ _ _ h => h)); have HMa := hid (HRm'.out.keeps hky (fun _ _ _ _ h => h)); have HNa := hid (HN'.out.keeps hky (fun h => h)); have HKa := hid (HKr'.out.trans hky)
                  have HRy := hid (refs_one (alloc_new' (w := wr.alloc (.cells #[.int .i64 y.s, .int .u32 y.g] 33)) (n := wr.heap.size + 1) (o := .cells #[.int .i64 y.s, .int .u32 y.g] 33) (by simp)))
                  clear hky
                  go_wp2_with (first
                    | (at_builtin; refine wpList_append_refs _ rfl _ _ rfl w.heap.size (.slice p' l'.length c') _ l' [y] rfl rfl HRa.out HRy.out (by simp; omega) HKa.out.size ?_; intro v9 w9 hr9 hk9 ho9)
                    | fail)
                  obtain ⟨p9, c9, rfl⟩ := hr9.refs.slice
                  have hlt9 := HRa.out.lt
                  refine ⟨⟨j + 1, l' ++ [y], t ++ [y], p9, c9, by omega, by go_num, rfl, hid hr9, ?_, ?_, ?_, hid ⟨HGl'.out.1.append (m := [y]) (fun r hr => by rw [List.mem_singleton.1 hr]; exact HGY.out), by rw [HGl'.out.2.1, List.append_assoc], fun k hk hkz => ?_⟩, by simp; omega, by simp; omega, ?_⟩, by simp [intOf]; omega⟩
                  · exact hid (HMa.out.keeps hk9 (fun u _ _ hu hm => HSP'.out u hm hu))
                  · refine hid (fun u hu hm => ?_)
                    rcases ho9 with h | h
                    · exact HSP'.out u (by rw [← h]; exact hu) hm
                    · rw [h] at hu
                      have h1 := (HMa.out.lt u hm).2
                      have h2 := Option.some.inj hu
                      omega
                  · exact hid (HNa.out.keeps hk9 (vmap_own HNa.out HRa.out))
                  · rcases Nat.lt_succ_iff_lt_or_eq.1 hk with hk | rfl
                    · exact List.mem_append_left _ (HGl'.out.2.2 k hk hkz)
                    · rw [HY.out]; exact List.mem_append_right _ (by simp)
                  · exact hid (HKa.out.trans' hk9 (fun _ _ h => h) (fun u hu h => by have := (hlt9 u h).1; omega))
              · have hlt' : ¬ (j : Int) < 4 := by omega
                obtain rfl : j = 4 := by omega
                have HOO := hid (HMORE.out l' t HGl'.out.2.1 htl HGl'.out.1 (fun q hq => by obtain ⟨k, hk, e, hz⟩ := HED.out q hq; rw [← e] at hz ⊢; exact HGl'.out.2.2 k hk hz))
                have hil : i + 1 ≤ l'.length := by omega
                clear HIDX HGO HED HMORE
                go_wp2_with fail
                exact ⟨⟨i + 1, l', m6, _, _, c', d5, hil, by go_num, rfl, rfl, HRl', HRm', HSP', HN', HOO, HKr'⟩, by simp [intOf]; omega⟩
        · have hl1' : ¬ (i : Int) < (l.length : Int) := by omega
          have HD := hid (HO.out.done HND.out (by omega))
          have HN := hid HO.out.nd
          clear HO
          go_wp2_with fail
          go_ret
          exact ⟨_, rfl, m, HRm.out, HN.out, HD.out, hml, HKr.out⟩
end Go.Proofs.YtehmoikbeflkaaaGreat
