/- estraylaw25: reached. -/
import Derived.Test.YtiopnedplnoleaaGreatKpB
import Derived.Test.YtiopnedplnoleaaGreatObA
namespace Go.Proofs.YtiopnedplnoleaaGreat
open Go.RowKit
set_option linter.unusedVariables false
set_option linter.unusedSimpArgs false

theorem idx4 (o : Ob) {j : Nat} (hj : j < 4) (w : World) : Sem.run Tryz.prog (Instr.index 235 (.agg #[.int .i64 o.f0.s, .int .u32 o.f0.g, .int .i64 o.f1.s, .int .u32 o.f1.g, .int .i64 o.f2.s, .int .u32 o.f2.g, .int .i64 o.f3.s, .int .u32 o.f3.g]) (.int .i64 j)) w = .ok (.agg #[.int .i64 (o.fs j).s, .int .u32 (o.fs j).g]) w := by
  match j, hj with
  | 0, _ => show _ = _; kernel_rfl
  | 1, _ => show _ = _; kernel_rfl
  | 2, _ => show _ = _; kernel_rfl
  | 3, _ => show _ = _; kernel_rfl

theorem own_map {w : World} {b n base : Nat} {v : Value} {l : List Rf} (h : NMap w b n) (hv : Row w base v l) : v.ownBlock ≠ some b := by
  intro e
  obtain ⟨D, es, clock, h1, _⟩ := h
  rcases hv.2 with ⟨rfl, _⟩ | ⟨g, c, cur, rfl, _, hg, _⟩
  · cases e
  · have : g = b := Option.some.inj e
    rw [this, h1] at hg
    cases hg

theorem Rf.Ok.key {r : Rf} (h : r.Ok) : ∃ kl, keyOf Tryz.prog 37 (.agg #[.int .i64 r.s, .int .u32 r.g]) = some kl := by
  obtain ⟨h0, h1, h2, h3⟩ := h
  have e1 : IntKind.i64.min = -9223372036854775808 := by decide
  have e2 : IntKind.i64.max = 9223372036854775807 := by decide
  have e3 : IntKind.u32.min = 0 := by decide
  have e4 : IntKind.u32.max = 4294967295 := by decide
  exact ref_key (by simp [Lit.wf, e1, e2]; omega) (by simp [Lit.wf, e3, e4]; omega)
theorem rch_ok {A : Ar} (h : A.Ok) {r : Rf} (hr : Rch A r) : r.Ok := by
  induction hr with
  | @root m i h1 h2 => exact (h.rt m h1).2 i h2
  | @var i h1 h2 => exact (h.gl i h1).ok h2
  | @field r q _ _ he _ =>
    obtain ⟨_, _, hz, k, hk, rfl⟩ := he
    exact ((h.ob _).fine hk).ok hz
theorem nmap_look {w : World} {b n : Nat} (h : NMap w b n) {r : Rf} (hr : r.Ok) : ∃ z : Int, Sem.run Tryz.prog (Instr.lookup 249 (.map (some b)) (.agg #[.int .i64 r.s, .int .u32 r.g]) false) w = .ok (.int .i64 z) w := by
  obtain ⟨D, hD⟩ := h
  obtain ⟨kl, hkl⟩ := hr.key
  obtain ⟨c, h1, _, _⟩ := hD.lookup_int (t := 249) ref_law Tryz.underlying249 Tryz.underlying3 (by kernel_rfl) hkl
  exact ⟨c, h1⟩
theorem nmap_set {w : World} {b n : Nat} (h : NMap w b n) {r : Rf} (hr : r.Ok) (hn : n ≤ 5000) : ∃ w', Sem.run Tryz.prog (Instr.mapUpdate 249 (.map (some b)) (.agg #[.int .i64 r.s, .int .u32 r.g]) (.int .i64 1)) w = .ok () w' ∧ NMap w' b (n + 1) ∧ Keeps (fun y => y = b) w w' := by
  obtain ⟨D, hD⟩ := h
  obtain ⟨kl, hkl⟩ := hr.key
  obtain ⟨w', h1, h2, h3⟩ := hD.update (t := 249) ref_law Tryz.underlying249 (by simp [maxLen]; omega) hkl (plainElem_int (H := Unit) Tryz.underlying3 (a := 1) (by decide))
  exact ⟨w', h1, ⟨_, h2⟩, (grown_keeps h3).mono (fun k _ h => (Option.some.inj h).symm)⟩

theorem refs_one {w : World} {b : Nat} {x : Rf} (h : w.heap[b]? = some (.cells #[.int .i64 x.s, .int .u32 x.g] 37)) : Refs w (.slice (some ⟨b, 0, none⟩) 1 1) [x] :=
  .inr ⟨b, 1, _, rfl, h, fun j r hj => by
    match j, hj with
    | 0, hj => obtain rfl : x = r := Option.some.inj hj; exact ⟨rfl, rfl⟩⟩

set_option maxRecDepth 100000 in
set_option maxHeartbeats 4000000 in
theorem reached25 (a : Nat) (LA : ArL) (A : Ar) (w : World) (h : ArIn w a LA A) (hok : A.Ok) :
    Calls Tryz.prog 68 #[.pointer (some ⟨a, 0, none⟩)] w fun e w' => ∃ v, e = .returned v ∧ ∃ l, Refs w' v l ∧ Gath A l ∧ l.length ≤ 5000 ∧ Keeps (fun _ => False) w w' := by
  have HA := hid (fun W (hk : Keeps (fun _ => False) w W) => h.keeps0 hk)
  have HOK := hid hok
  have hm1 := h.m1; have hm4 := h.m4
  have hmx : ¬ (4 : Int) < (A.many : Int) := by omega
  clear h hok
  go_enter Tryz.func68, Tryz.ntmps68
  go_wp2_with fail
  refine (asizes_ok a LA A w (HA.out _ (Keeps.refl _ _))).mono ?_
  rintro e w1 ⟨rfl, k1⟩
  have HK1 := hid k1
  clear k1
  go_wp2_with fail
  refine (aglobals_row a LA A w1 (HA.out _ HK1.out)).mono ?_
  rintro e w2 ⟨v0, rfl, hr2, k2⟩
  have HK2 := hid (HK1.out.trans k2); have HR2 := hid (hr2.mono HK1.out.size)
  clear hr2 k2 HK1
  go_wp2_with fail
  go_loopw [5, 25] (fun s5 ix wr => ∃ (k : Nat) (l : List Rf) (c : Nat) (p : Option Addr), k ≤ A.many ∧ ix = .int .i64 k ∧ s5 = .slice p l.length c ∧ Hid (Row wr w.heap.size (.slice p l.length c) l) ∧ Hid (Gath A l) ∧ l.length ≤ 8 + 32 * k ∧ Hid (Keeps (fun _ => False) w wr)) (fun _ ix _ => A.many - (intOf ix).toNat)
  case atStart =>
    obtain ⟨p, c, rfl⟩ := HR2.out.refs.slice
    refine ⟨0, A.glL, c, p, Nat.zero_le _, rfl, rfl, HR2, hid (gath_gl A), ?_, HK2⟩
    have h1 : A.glL.length ≤ ((List.range 8).map A.gl).length := List.length_filter_le _ _
    simpa using h1
  case round =>
    obtain ⟨k, l, c, p, hk, rfl, rfl, HRl, HGl, hll, HKr⟩ := hrel
    by_cases hlt : k < A.many
    · have hlt' : (k : Int) < (A.many : Int) := by omega
      have hk0 : (0 : Int) ≤ k := by omega
      have hrn := (HOK.out.rt k hlt).1
      go_wp2_with fail
      refine (astackall_ok a LA A k wr (HA.out _ HKr.out) hlt).mono ?_
      rintro e w3 ⟨v7, rfl, hr7, k3⟩
      have HR3 := hid (HRl.out.keeps k3 (fun _ _ _ _ h => h)); have HR7 := hid hr7.refs; have HK3 := hid (HKr.out.trans k3)
      have HGR := hid (gath_rt A hlt)
      have hlr : (A.rt k).l.length = (A.rt k).n := by simp [Sk.l]
      clear hr7 k3
      go_wp2_with (first
        | (at_builtin; refine wpList_append_refs _ rfl _ _ rfl w.heap.size _ _ l (A.rt k).l rfl rfl HR3.out HR7.out (by omega) HK3.out.size ?_; intro v9 w9 hr9 hk9 ho9)
        | fail)
      obtain ⟨p9, c9, rfl⟩ := hr9.refs.slice
      refine ⟨⟨k + 1, l ++ (A.rt k).l, c9, p9, by omega, by go_num, rfl, hr9, hid (HGl.out.append HGR.out), by rw [List.length_append]; omega, ?_⟩, by simp [intOf]; omega⟩
      exact hid (HK3.out.trans' hk9 (fun _ _ h => h) (fun y hy hz => by have := (HR3.out.lt y hz).1; omega))
    · have hlt' : ¬ (k : Int) < (A.many : Int) := by omega
      obtain ⟨wo, rfl⟩ : ∃ wo : World, wo = wr := ⟨_, rfl⟩
      have hl136 : l.length ≤ 136 := by omega
      clear hlt hll
      have hmm : Sem.run Tryz.prog (Instr.makeMap 249 none) wo = .ok (.map (some wo.heap.size)) (wo.alloc (.map #[] 0)) := run_makeMap _ _
      go_wp2_with fail
      clear hlt' hmm
      obtain ⟨wm, hwm⟩ : ∃ wm, wo.alloc (.map #[] 0) = wm := ⟨_, rfl⟩
      have hnm : NMap wm wo.heap.size 0 := by rw [← hwm]; exact NMap.made wo
      have hkm : Keeps (fun _ => False) wo wm := by rw [← hwm]; exact (Keeps.refl _ _).alloc _
      obtain ⟨bm, hbm⟩ : ∃ bm, wo.heap.size = bm := ⟨_, rfl⟩
      rw [hwm]
      rw [hbm] at hnm ⊢
      have hwbm : w.heap.size ≤ bm := by rw [← hbm]; exact HKr.out.size
      have HNM := hid hnm; have HKM := hid (HKr.out.trans hkm); have HRM := hid (HRl.out.keeps hkm (fun _ _ _ _ h => h))
      clear hwm hnm hkm hbm HRl HKr HR2 HK2
      go_loopw [5, 10, 11] (fun s5 s10 ix wr => ∃ (i : Nat) (l m : List Rf) (p q : Option Addr) (c d : Nat), i ≤ 5000 ∧ ix = .int .i64 i ∧ s5 = .slice p l.length c ∧ s10 = .slice q m.length d ∧ Hid (Row wr w.heap.size (.slice p l.length c) l) ∧ Hid (Row wr w.heap.size (.slice q m.length d) m) ∧
        Hid (∀ y, (Value.slice p l.length c).ownBlock = some y → (Value.slice q m.length d).ownBlock ≠ some y) ∧ Hid (∃ n, n ≤ i ∧ NMap wr bm n) ∧ Hid (Gath A l) ∧ Hid (Gath A m) ∧ l.length ≤ 136 + 4 * i ∧ m.length ≤ i ∧ Hid (Keeps (fun _ => False) w wr)) (fun _ _ ix _ => 5000 - (intOf ix).toNat)
      case atStart =>
        exact ⟨0, l, [], p, none, c, 0, Nat.zero_le _, rfl, rfl, rfl, HRM, hid (Row.nil _ _), hid (fun y _ h => by cases h), hid ⟨0, Nat.le_refl _, HNM.out⟩, HGl, hid (fun r h => by cases h), by omega, Nat.zero_le _, HKM⟩
      case round =>
        obtain ⟨i, l, m, p, q, c, d, hi, rfl, rfl, rfl, HRl, HRm, HSP, HMP, HGl, HGm, hll, hml, HKr⟩ := hrel
        have hi0 : (0 : Int) ≤ i := by omega
        by_cases hlt : i < l.length ∧ i < 5000
        · obtain ⟨hl1, hl2⟩ := hlt
          have hl1' : (i : Int) < (l.length : Int) := by omega
          have hl2' : (i : Int) < 5000 := by omega
          obtain ⟨x, hx⟩ : ∃ x, l[i]? = some x := ⟨_, List.getElem?_eq_getElem hl1⟩
          obtain ⟨_, hcell⟩ := HRl.out.refs.cell
          obtain ⟨g, rfl, hg, c0, c1⟩ := hcell i x hx
          clear hcell
          have hRx := HGl.out x (List.mem_of_getElem? hx)
          have HX := hid hx
          have hxo := rch_ok HOK.out hRx
          obtain ⟨n, hn, hnm⟩ := HMP.out
          obtain ⟨z, hlook⟩ := nmap_look hnm hxo
          obtain ⟨w3, hset, hnm3, hk3⟩ := nmap_set hnm hxo (by omega)
          have HN3 := hid hnm3; have HK3 := hid hk3
          have HR3 := hid (HRl.out.keeps hk3 (fun y _ _ hy he => own_map hnm HRl.out (by rw [hy, he])))
          have HM3 := hid (HRm.out.keeps hk3 (fun y _ _ hy he => own_map hnm HRm.out (by rw [hy, he])))
          obtain ⟨_, hcell3⟩ := HR3.out.refs.cell
          clear hx hnm hnm3 hk3
          by_cases hz : 0 < z
          · clear hset hcell3 HN3 HK3 HR3 HM3
            go_wp2_with fail
            refine ⟨⟨i + 1, l, m, _, _, c, d, by omega, by go_num, rfl, rfl, HRl, HRm, HSP, ?_, HGl, HGm, by omega, by omega, HKr⟩, by simp [intOf]; omega⟩
            obtain ⟨n', h1, h2⟩ := HMP.out
            exact hid ⟨n', by omega, h2⟩
          · have hzn : decide (0 < z) = false := by simpa using hz
            obtain ⟨g3, eg, hg3, d0, d1⟩ := hcell3 i x HX.out
            obtain rfl : g = g3 := by injection eg with eg; injection eg
            clear hcell3 eg hz
            have HR4 := hid (HR3.out.keeps ((Keeps.refl (fun _ => False) _).alloc (.cells #[.int .i64 x.s, .int .u32 x.g] 37)) (fun _ _ _ _ h => h))
            have HM4 := hid (HM3.out.keeps ((Keeps.refl (fun _ => False) _).alloc (.cells #[.int .i64 x.s, .int .u32 x.g] 37)) (fun _ _ _ _ h => h))
            have HN4 := hid (HN3.out.keeps ((Keeps.refl (fun _ => False) _).alloc (.cells #[.int .i64 x.s, .int .u32 x.g] 37)) (fun h => h))
            have HK4 := hid (show Keeps (fun _ => False) w (w3.alloc (.cells #[.int .i64 x.s, .int .u32 x.g] 37)) from (HKr.out.trans' HK3.out (fun _ _ h => h) (fun y hy h => by omega)).alloc _)
            have HRO := hid (refs_one (alloc_new (w := w3) (o := .cells #[.int .i64 x.s, .int .u32 x.g] 37)))
            go_wp2_with (first
              | (at_builtin; refine wpList_append_refs _ rfl _ _ rfl w.heap.size (.slice q m.length d) _ m [x] rfl rfl HM4.out HRO.out (by simp; omega) HK4.out.size ?_; intro v5 w5 hr5 hk5 ho5; have HR5 := hid (HR4.out.keeps hk5 (fun y _ _ hy hm => HSP.out y hy hm)); obtain ⟨_, hcell5⟩ := HR5.out.refs.cell; obtain ⟨g5, eg, hg5, f0, f1⟩ := hcell5 i x HX.out; obtain rfl : g = g5 := (by injection eg with eg; injection eg); clear hcell5 eg)
              | fail)
            have HR6 := hid hr5; have HO5 := hid ho5
            have HN5 := hid (HN4.out.keeps hk5 (own_map HN4.out HM4.out))
            have HK5 := hid (show Keeps (fun _ => False) w w5 from HK4.out.trans' hk5 (fun _ _ h => h) (fun y hy hz => by have := (HM4.out.lt y hz).1; omega))
            clear hr5 hk5 ho5 d0 d1 c0 c1 hset
            obtain ⟨o, ec, hoc, hcall⟩ := aobject_any a LA A x w5 (HA.out _ HK5.out)
            have HOC := hid hoc; have HCALL := hid hcall
            clear hoc hcall
            refine HCALL.out.mono ?_
            rintro e w6 ⟨rfl, k6⟩
            dsimp only [Ob.arr]
            obtain ⟨q5, d5, rfl⟩ := HR6.out.refs.slice
            have HSP5 := hid (show ∀ y, (Value.slice (some ⟨g, 0, none⟩) l.length c).ownBlock = some y → (Value.slice q5 (m ++ [x]).length d5).ownBlock ≠ some y from fun y hy hz => by
              rcases HO5.out with h | h
              · exact HSP.out y hy (by rw [← h]; exact hz)
              · rw [h] at hz
                have h1 := (HR4.out.lt y hy).2
                have h2 := Option.some.inj hz
                omega)
            have HRl6 := hid (HR5.out.keeps k6 (fun _ _ _ _ h => h)); have HRm6 := hid (HR6.out.keeps k6 (fun _ _ _ _ h => h)); have HN6 := hid (HN5.out.keeps k6 (fun h => h)); have HK6 := hid (HK5.out.trans k6)
            have HGm6 := hid (HGm.out.append (m := [x]) (fun r hr => by rw [List.mem_singleton.1 hr]; exact hRx))
            have hml6 : (m ++ [x]).length ≤ i + 1 := by simp; omega
            clear k6 HR5 HR6 HN5 HK5 HR4 HM4 HN4 HK4 HO5 HRO HRl HRm HSP HGm HKr f0 f1
            obtain ⟨m6, hm6⟩ : ∃ m6, m ++ [x] = m6 := ⟨_, rfl⟩
            rw [hm6] at HSP5 HRm6 HGm6 hml6 ⊢
            clear hm6
            rcases HOC.out with ⟨rfl, hth, ho⟩ | ⟨hne, _, _⟩
            · have HTH := hid hth; have HOE := hid ho
              clear hth ho
              go_wp2_with fail
              have hidx : ∀ (j : Nat), j < 4 → ∀ W, Sem.run Tryz.prog (Instr.index 235 (.agg #[.int .i64 o.f0.s, .int .u32 o.f0.g, .int .i64 o.f1.s, .int .u32 o.f1.g, .int .i64 o.f2.s, .int .u32 o.f2.g, .int .i64 o.f3.s, .int .u32 o.f3.g]) (.int .i64 j)) W = .ok (.agg #[.int .i64 (o.fs j).s, .int .u32 (o.fs j).g]) W := fun j hj W => idx4 o hj W
              have HIDX := hid hidx
              clear hidx
              obtain ⟨w7, hw7⟩ : ∃ w7, w6.alloc (.cells #[.int .i64 o.n, .int .i64 o.f0.s, .int .u32 o.f0.g, .int .i64 o.f1.s, .int .u32 o.f1.g, .int .i64 o.f2.s, .int .u32 o.f2.g, .int .i64 o.f3.s, .int .u32 o.f3.g, .bool o.h] 237) = w7 := ⟨_, rfl⟩
              have hk7 : Keeps (fun _ => False) w6 w7 := by rw [← hw7]; exact (Keeps.refl _ _).alloc _
              rw [hw7]
              have HK7 := hid hk7
              have HGO := hid (show ∀ j, j < 4 → (o.fs j).nz = true → Rch A (o.fs j) from fun j hj hz => by
                obtain ⟨_, _, h3, h4, _⟩ := There.lt HTH.out
                rw [HOE.out] at hz ⊢
                exact .field hRx HTH.out ⟨h3, h4, hz, j, hj, rfl⟩)
              clear hw7 hk7 HTH HOE
              go_loopw [5, 81] (fun s5 ix wr => ∃ (j : Nat) (l' : List Rf) (p' : Option Addr) (c' : Nat), j ≤ 4 ∧ ix = .int .i64 j ∧ s5 = .slice p' l'.length c' ∧ Hid (Row wr w.heap.size (.slice p' l'.length c') l') ∧ Hid (Row wr w.heap.size (.slice q5 m6.length d5) m6) ∧
                Hid (∀ y, (Value.slice p' l'.length c').ownBlock = some y → (Value.slice q5 m6.length d5).ownBlock ≠ some y) ∧ Hid (NMap wr bm (n + 1)) ∧ Hid (Gath A l') ∧ l'.length ≤ 136 + 4 * i + j ∧ Hid (Keeps (fun _ => False) w wr)) (fun _ ix _ => 4 - (intOf ix).toNat)
              case atStart =>
                exact ⟨0, l, _, c, Nat.zero_le _, rfl, rfl, hid (HRl6.out.keeps HK7.out (fun _ _ _ _ h => h)), hid (HRm6.out.keeps HK7.out (fun _ _ _ _ h => h)), HSP5, hid (HN6.out.keeps HK7.out (fun h => h)), HGl, by omega, hid (HK6.out.trans HK7.out)⟩
              case round =>
                obtain ⟨j, l', p', c', hj, rfl, rfl, HRl', HRm', HSP', HN', HGl', hll', HKr'⟩ := hrel
                by_cases hlt : j < 4
                · have hlt' : (j : Int) < 4 := by omega
                  have hj0 : (0 : Int) ≤ j := by omega
                  have hidx := HIDX.out j hlt
                  have hgo := HGO.out j hlt
                  obtain ⟨y, hy⟩ : ∃ y, o.fs j = y := ⟨_, rfl⟩
                  rw [hy] at hidx hgo
                  have hneq := fun W => neq_nz y W
                  clear hy
                  rcases hz : y.nz with _ | _
                  · rw [hz] at hneq
                    clear hz hgo
                    go_wp2_with fail
                    refine ⟨⟨j + 1, l', p', c', by omega, by go_num, rfl, ?_, ?_, HSP', ?_, HGl', by omega, hid (HKr'.out.alloc _)⟩, by simp [intOf]; omega⟩
                    · exact hid (HRl'.out.keeps ((Keeps.refl (fun _ => False) _).alloc _) (fun _ _ _ _ h => h))
                    · exact hid (HRm'.out.keeps ((Keeps.refl (fun _ => False) _).alloc _) (fun _ _ _ _ h => h))
                    · exact hid (HN'.out.keeps ((Keeps.refl (fun _ => False) _).alloc _) (fun h => h))
                  · rw [hz] at hneq
                    have HGY := hid (hgo hz)
                    clear hz hgo
                    have hky : Keeps (fun _ => False) wr ((wr.alloc (.cells #[.int .i64 y.s, .int .u32 y.g] 37)).alloc (.cells #[.int .i64 y.s, .int .u32 y.g] 37)) := ((Keeps.refl (fun _ => False) _).alloc _).alloc _
                    have HRa := hid (HRl'.out.keeps hky (fun _ _ _ _ h => h)); have HMa := hid (HRm'.out.keeps hky (fun _ _ _ _ h => h)); have HNa := hid (HN'.out.keeps hky (fun h => h)); have HKa := hid (HKr'.out.trans hky)
                    have HRy := hid (refs_one (alloc_new' (w := wr.alloc (.cells #[.int .i64 y.s, .int .u32 y.g] 37)) (n := wr.heap.size + 1) (o := .cells #[.int .i64 y.s, .int .u32 y.g] 37) (by simp)))
                    clear hky
                    go_wp2_with (first
                      | (at_builtin; refine wpList_append_refs _ rfl _ _ rfl w.heap.size (.slice p' l'.length c') _ l' [y] rfl rfl HRa.out HRy.out (by simp; omega) HKa.out.size ?_; intro v9 w9 hr9 hk9 ho9)
                      | fail)
                    obtain ⟨p9, c9, rfl⟩ := hr9.refs.slice
                    have hlt9 := HRa.out.lt
                    refine ⟨⟨j + 1, l' ++ [y], p9, c9, by omega, by go_num, rfl, hid hr9, ?_, ?_, ?_, hid (HGl'.out.append (m := [y]) (fun r hr => by rw [List.mem_singleton.1 hr]; exact HGY.out)), by simp; omega, ?_⟩, by simp [intOf]; omega⟩
                    · exact hid (HMa.out.keeps hk9 (fun u _ _ hu hm => HSP'.out u hm hu))
                    · refine hid (fun u hu hm => ?_)
                      rcases ho9 with h | h
                      · exact HSP'.out u (by rw [← h]; exact hu) hm
                      · rw [h] at hu
                        have h1 := (HMa.out.lt u hm).2
                        have h2 := Option.some.inj hu
                        omega
                    · exact hid (HNa.out.keeps hk9 (own_map HNa.out HRa.out))
                    · exact hid (HKa.out.trans' hk9 (fun _ _ h => h) (fun u hu h => by have := (hlt9 u h).1; omega))
                · have hlt' : ¬ (j : Int) < 4 := by omega
                  clear HIDX HGO
                  go_wp2_with fail
                  refine ⟨⟨i + 1, l', m6, _, _, c', d5, by omega, by go_num, rfl, rfl, HRl', HRm', HSP', hid ⟨n + 1, by omega, HN'.out⟩, HGl', HGm6, by omega, hml6, HKr'⟩, by simp [intOf]; omega⟩
            · go_wp2_with fail
              refine ⟨⟨i + 1, l, m6, _, _, c, d5, by omega, by go_num, rfl, rfl, ?_, ?_, HSP5, ?_, HGl, HGm6, by omega, hml6, ?_⟩, by simp [intOf]; omega⟩
              · exact hid (HRl6.out.keeps ((Keeps.refl (fun _ => False) _).alloc _) (fun _ _ _ _ h => h))
              · exact hid (HRm6.out.keeps ((Keeps.refl (fun _ => False) _).alloc _) (fun _ _ _ _ h => h))
              · obtain ⟨n', h1, h2⟩ := HMP.out
                exact hid ⟨n + 1, by omega, HN6.out.keeps ((Keeps.refl (fun _ => False) _).alloc _) (fun h => h)⟩
              · exact hid (HK6.out.alloc _)
        · have hml' := hml
          have fin : ∃ v l, Value.slice q m.length d = v ∧ Refs wr v l ∧ Gath A l ∧ l.length ≤ 5000 ∧ Keeps (fun _ => False) w wr := ⟨_, m, rfl, HRm.out.refs, HGm.out, by omega, HKr.out⟩
          have FIN := hid fin
          clear fin hml'
          by_cases hl1 : i < l.length
          · have hl1' : (i : Int) < (l.length : Int) := by omega
            have hl2' : ¬ (i : Int) < 5000 := by omega
            clear hlt
            go_wp2_with fail
            go_ret
            obtain ⟨v, l, rfl, h⟩ := FIN.out
            exact ⟨_, rfl, l, h⟩
          · have hl1' : ¬ (i : Int) < (l.length : Int) := by omega
            clear hlt
            go_wp2_with fail
            go_ret
            obtain ⟨v, l, rfl, h⟩ := FIN.out
            exact ⟨_, rfl, l, h⟩

end Go.Proofs.YtiopnedplnoleaaGreat
