/- Package reach: there, From. -/
import Derived.Test.YtehmoikbeflkaaaGreatRcE
namespace Go.Proofs.YtehmoikbeflkaaaGreat
open Go.RowKit
set_option linter.unusedVariables false
set_option linter.unusedSimpArgs false

theorem hobject_any (b t : Nat) (H : Hp) (r : Rf) (w : World) (h : HpAt w b t H) : ∃ o : Ob,
    Calls Tryz.prog 126 #[.pointer (some ⟨b, 0, none⟩), .agg #[.int .i64 r.s, .int .u32 r.g]] w fun e w' => e = .returned (.tuple #[.agg o.arr, .int .i64 (ckV H.T r.s r.g)]) ∧ Keeps (fun _ => False) w w' := by
  by_cases hc : ckV H.T r.s r.g = 0
  · obtain ⟨i, e1, e2, e3, e4⟩ := ckV_ok hc
    refine ⟨H.ob i, ?_⟩
    rw [hc]
    rw [e1] at hc ⊢
    exact hobject_ok b t H i r.g w h hc
  · exact ⟨_, hobject_bad b t H r.s r.g w h hc⟩
def thrE (H : Hp) : List Rf → Int
  | [] => 0
  | r :: l => if r.nz = false then thrE H l else if ckV H.T r.s r.g = 0 then thrE H l else ckV H.T r.s r.g
theorem thrE_zero {H : Hp} : ∀ {l : List Rf}, thrE H l = 0 → ∀ r ∈ l.filter (·.nz), There H r
  | [], _, r, hr => by cases hr
  | x :: l, h, r, hr => by
    unfold thrE at h
    split at h
    · rename_i hx
      rw [List.filter_cons_of_neg (by rw [hx]; decide)] at hr
      exact thrE_zero h r hr
    · rename_i hx
      split at h
      · rename_i hc
        rw [List.filter_cons_of_pos (by simpa using hx)] at hr
        rcases List.mem_cons.1 hr with rfl | hr
        · exact hc
        · exact thrE_zero h r hr
      · rename_i hc; exact absurd h hc
theorem thrE_of {H : Hp} : ∀ {l : List Rf}, (∀ r ∈ l, r.nz = true → There H r) → thrE H l = 0
  | [], _ => rfl
  | x :: l, h => by
    unfold thrE
    split
    · exact thrE_of (fun r hr => h r (by simp [hr]))
    · rename_i hx
      rw [if_pos (show ckV H.T x.s x.g = 0 from h x (by simp) (by simpa using hx))]
      exact thrE_of (fun r hr => h r (by simp [hr]))
set_option maxRecDepth 100000 in
set_option maxHeartbeats 2000000 in
theorem there_ok (b t : Nat) (H : Hp) (v : Value) (l : List Rf) (w : World) (h : HpAt w b t H) (hv : Refs w v l) (hn : l.length ≤ 4096) :
    Calls Tryz.prog 89 #[.pointer (some ⟨b, 0, none⟩), v] w fun e w' => ∃ v', e = .returned (.tuple #[v', .int .i64 (thrE H l)]) ∧ (thrE H l = 0 → Row w' w.heap.size v' (l.filter (·.nz))) ∧ (thrE H l ≠ 0 → v' = .slice none 0 0) ∧ Keeps (fun _ => False) w w' := by
  obtain ⟨p, c, rfl⟩ := hv.slice
  have HV := hid (fun W (hk : Keeps (fun _ => False) w W) => (hv.keeps hk (fun _ _ h => h)).cell.2)
  have HW := hid (fun W (hk : Keeps (fun _ => False) w W) => h.keeps hk (fun h => h) (fun h => h))
  have HCP := hid (hcopy_ok b t H w h)
  clear h hv
  obtain ⟨E, hE⟩ : ∃ E, thrE H l = E := ⟨_, rfl⟩
  have HE := hid hE
  rw [hE]
  clear hE
  go_enter Tryz.func89, Tryz.ntmps89
  go_wp2_with fail
  refine HCP.out.mono ?_
  rintro e w1 ⟨b', t', rfl, k1, _, _, _⟩
  have K1 := hid k1
  clear k1
  go_wp2_with fail
  go_loopw [6, 16] (fun s6 ix wr => ∃ (k : Nat) (p6 : Option Addr) (c6 : Nat), k ≤ l.length ∧ ix = .int .i64 k ∧ s6 = .slice p6 ((l.take k).filter (·.nz)).length c6 ∧ Hid (Row wr w.heap.size (.slice p6 ((l.take k).filter (·.nz)).length c6) ((l.take k).filter (·.nz))) ∧ Hid (thrE H (l.drop k) = E) ∧ Hid (Keeps (fun _ => False) w wr)) (fun _ ix _ => l.length - (intOf ix).toNat)
  case atStart => exact ⟨0, none, 0, Nat.zero_le _, rfl, rfl, hid (Row.nil _ _), HE, K1⟩
  case round =>
    obtain ⟨k, p6, c6, hk, rfl, rfl, HR, HT, HK⟩ := hrel
    have hk0 : (0 : Int) ≤ k := by omega
    by_cases hlt : k < l.length
    · obtain ⟨x, hx⟩ : ∃ x, l[k]? = some x := ⟨_, List.getElem?_eq_getElem hlt⟩
      obtain ⟨g, rfl, hgl, c0, c1⟩ := HV.out wr HK.out k x hx
      have hlt' : (k : Int) < (l.length : Int) := by omega
      have hql := fun W => eql_ref W x.s x.g 0 0
      have hqn : (x.s == 0 && x.g == 0) = !x.nz := by unfold Rf.nz; simp
      rw [hqn] at hql
      have hdr : l.drop k = x :: l.drop (k + 1) := by
        obtain ⟨_, h⟩ := List.getElem?_eq_some_iff.1 hx
        rw [← h, List.getElem_cons_drop]
      have htk : l.take (k + 1) = l.take k ++ [x] := by rw [List.take_add_one, hx]; rfl
      obtain ⟨wa, hwa⟩ : ∃ wa, wr.alloc (.cells #[.int .i64 x.s, .int .u32 x.g] 33) = wa := ⟨_, rfl⟩
      have ka : Keeps (fun _ => False) wr wa := by rw [← hwa]; exact (Keeps.refl _ _).alloc _
      have qy : wa.heap[wr.heap.size]? = some (.cells #[.int .i64 x.s, .int .u32 x.g] 33) := by rw [← hwa]; exact alloc_new
      obtain ⟨y0, y1, _, yl⟩ := cells2 qy
      have HKa := hid (HK.out.trans ka)
      have HRa := hid (HR.out.keeps ka (fun _ _ _ _ h => h))
      have HWa := hid hwa; have HQ := hid qy
      have HT0 := HT.out
      rw [hdr] at HT0
      unfold thrE at HT0
      have HT1 := hid HT0
      have HTK := hid htk
      clear HV hx hdr htk ka qy hwa HT HT0 hqn
      rcases hz : x.nz with _ | _
      · have HF := hid (show (l.take (k + 1)).filter (·.nz) = (l.take k).filter (·.nz) by rw [HTK.out, List.filter_append]; simp [hz])
        have HT2 := hid (show thrE H (l.drop (k + 1)) = E by have := HT1.out; rw [if_pos hz] at this; exact this)
        rw [hz] at hql
        clear hz HT1
        go_wp2_with fail
        rw [HWa.out]
        go_wp2_with fail
        refine ⟨⟨k + 1, p6, c6, by omega, by go_num, ?_, ?_, HT2, HKa⟩, by simp [intOf]; omega⟩
        · rw [HF.out]
        · rw [HF.out]; exact HRa
      · have HF := hid (show (l.take (k + 1)).filter (·.nz) = (l.take k).filter (·.nz) ++ [x] by rw [HTK.out, List.filter_append]; simp [hz])
        obtain ⟨o, ho⟩ := hobject_any b t H x wa (HW.out _ HKa.out)
        obtain ⟨ec, hec⟩ : ∃ ec, ckV H.T x.s x.g = ec := ⟨_, rfl⟩
        rw [hec] at ho
        have HO := hid ho
        have HT2 := HT1.out
        rw [if_neg (by rw [hz]; decide), hec] at HT2
        rw [hz] at hql
        by_cases he0 : ec = 0
        · subst he0
          rw [if_pos rfl] at HT2
          have HT3 := hid HT2
          have hnl : ((l.take k).filter (·.nz)).length ≤ 4096 := Nat.le_trans (List.length_filter_le _ _) (by rw [List.length_take]; omega)
          clear ho hec HT1 HT2 hz
          go_wp2_with fail
          rw [HWa.out]
          go_wp2_with fail
          refine HO.out.mono ?_
          rintro e w4 ⟨rfl, k4⟩
          dsimp only [Ob.arr]
          obtain ⟨wb, hwb⟩ : ∃ wb, w4.alloc (.cells o.arr 136) = wb := ⟨_, rfl⟩
          have kb : Keeps (fun _ => False) wa wb := by rw [← hwb]; exact k4.alloc _
          have HKb := hid (HKa.out.trans kb)
          have HRb := hid (HRa.out.keeps kb (fun _ _ _ _ h => h))
          have HRO := hid (refs_one (alloc_new (w := wb) (o := .cells #[.int .i64 x.s, .int .u32 x.g] 33)))
          have HVD := hid (HRb.out.keeps ((Keeps.refl (fun _ => False) _).alloc (.cells #[.int .i64 x.s, .int .u32 x.g] 33)) (fun _ _ _ _ h => h))
          have hsb := HKb.out.size
          obtain ⟨z0, z1, _, zl⟩ := cells2 (block_keep HQ.out k4 (fun h => h))
          have zl1 : wr.heap.size < w4.heap.size + 1 := by omega
          clear kb k4 y0 y1
          subst hwb
          unfold Ob.arr at HVD HRO HKb HRb hsb
          rw [World.size_alloc] at HRO
          go_wp2_with (first
            | (at_builtin; refine wpList_append_refs _ rfl _ _ rfl w.heap.size _ _ ((l.take k).filter (·.nz)) [x] rfl rfl HVD.out HRO.out (by rw [List.length_singleton]; omega) (by rw [World.size_alloc]; omega) ?_; intro v5 w5 hr5 hk5 ho5; obtain ⟨p5, c5, rfl⟩ := hr5.refs.slice)
            | fail)
          have HR5 := hid hr5
          have hlt5 := HVD.out.lt
          refine ⟨⟨k + 1, p5, c5, by omega, by go_num, ?_, ?_, HT3, ?_⟩, by simp [intOf]; omega⟩
          · rw [HF.out]; simp
          · rw [HF.out]; exact HR5
          · exact hid ((HKb.out.alloc _).trans' hk5 (fun _ _ h => h) (fun y hy hz => by have := (hlt5 y hz).1; omega))
        · rw [if_neg he0] at HT2
          have hE0 : E ≠ 0 := by rw [← HT2]; exact he0
          have hne : (ec == 0) = false := by simpa using he0
          have HT3 := hid HT2
          clear ho hec HT1 HT2 hz HE
          go_wp2_with fail
          rw [HWa.out]
          go_wp2_with fail
          refine HO.out.mono ?_
          rintro e w4 ⟨rfl, k4⟩
          dsimp only [Ob.arr]
          have HK4 := hid (HKa.out.trans k4)
          clear k4
          go_wp2_with fail
          go_ret2
          exact ⟨.slice none 0 0, by rw [HT3.out]; rfl, fun h => absurd h hE0, fun _ => rfl, HK4.out.alloc _⟩
    · have hlt' : ¬ (k : Int) < (l.length : Int) := by omega
      have ht : l.take k = l := List.take_of_length_le (by omega)
      have hE0 : E = 0 := by rw [← HT.out, List.drop_eq_nil_of_le (by omega)]; rfl
      rw [ht] at HR ⊢
      have HE0 := hid hE0
      clear hE0 ht HT
      go_wp2_with fail
      go_ret2
      exact ⟨_, by rw [HE0.out]; rfl, fun _ => HR.out, fun h => absurd HE0.out h, HK.out⟩
def fromL (H : Hp) (l : List Rf) : List Rf := if thrE H l = 0 then srt (explQ H (l.filter (·.nz))).keys else []
theorem from_ok (b t : Nat) (H : Hp) (v : Value) (l : List Rf) (w : World) (h : HpAt w b t H) (hv : Refs w v l) (hw : ∀ r ∈ l, r.Wf) (hn : l.length ≤ 4096) :
    Calls Tryz.prog 19 #[.pointer (some ⟨b, 0, none⟩), v] w fun e w' => ∃ v', e = .returned (.tuple #[v', .int .i64 (thrE H l)]) ∧ Row w' w.heap.size v' (fromL H l) ∧ Keeps (fun _ => False) w w' := by
  have HT := hid (there_ok b t H v l w h hv hn)
  have HW := hid (fun W (hk : Keeps (fun _ => False) w W) => h.keeps hk (fun h => h) (fun h => h))
  have hn12 := h.tab.n12
  have HNW := hid (fun r (hr : r ∈ l.filter (·.nz)) => hw r (List.mem_filter.1 hr).1)
  have hfl : (l.filter (·.nz)).length ≤ 4096 := Nat.le_trans (List.length_filter_le _ _) hn
  obtain ⟨ec, hec⟩ : ∃ ec, thrE H l = ec := ⟨_, rfl⟩
  have HTH := hid (fun (h : ec = 0) => thrE_zero (H := H) (l := l) (hec.trans h))
  have HFL := hid (show fromL H l = if ec = 0 then srt (explQ H (l.filter (·.nz))).keys else [] by unfold fromL; rw [hec])
  rw [hec] at HT
  rw [hec]
  clear h hv hw hn hec
  go_enter Tryz.func19, Tryz.ntmps19
  go_wp2_with fail
  refine HT.out.mono ?_
  rintro e w1 ⟨v1, rfl, hr1, hr2, k1⟩
  by_cases he : ec = 0
  · subst he
    have HR1 := hid (hr1 rfl); have K1 := hid k1
    have HEX := hid (explore_ok b t H v1 _ w.heap.size w1 (HW.out _ k1) (HTH.out rfl) HNW.out (hr1 rfl) hfl)
    have HL := hid (HTH.out rfl)
    have HNDL := hid (show ∀ r ∈ (explQ H (l.filter (·.nz))).keys, There H r from fun r hr => ((explQ_mem (HTH.out rfl)).1 hr).there (HTH.out rfl))
    have HLEN := hid (show (explQ H (l.filter (·.nz))).keys.length ≤ 256 by rw [qe_len]; have := expl_len (HTH.out rfl) H.T.n; unfold explQ; omega)
    clear hr1 hr2 k1 HT HTH
    go_wp2_with fail
    refine HEX.out.mono ?_
    rintro e w2 ⟨v2, bm, rfl, hr, _, _, k2⟩
    have HR2 := hid hr
    have K2 := hid ((K1.out.trans' k2 (U := fun y => w.heap.size ≤ y) (fun _ _ h => h.elim) (fun y _ h => (HR1.out.lt y h).1)).fresh)
    have HS := hid (rsort_ok v2 _ w1.heap.size w2 hr (fun r hr => ⟨(HNDL.out r hr).lt.1, by have := (HNDL.out r hr).lt.2.1; omega⟩) (oneSlot_there HNDL.out) (by have := HLEN.out; omega))
    clear hr k2
    go_wp2_with fail
    refine HS.out.mono ?_
    rintro e w3 ⟨rfl, hr3, k3⟩
    have HR3 := hid hr3
    have K3 := hid ((K2.out.trans' k3 (U := fun y => w.heap.size ≤ y) (fun _ _ h => h.elim) (fun y _ h => by have := (HR2.out.lt y h).1; have := K1.out.size; omega)).fresh)
    clear hr3 k3
    go_wp2_with fail
    go_ret2
    have e1 : fromL H l = srt (explQ H (l.filter (·.nz))).keys := by rw [HFL.out]; simp
    rw [e1]
    exact ⟨_, rfl, Row.mono HR3.out K1.out.size, K3.out⟩
  · have hne : (ec == 0) = false := by simpa using he
    have K1 := hid k1
    have HV := hid (hr2 he)
    have HE := hid he
    clear hr1 hr2 k1 HT HTH he
    go_wp2_with fail
    go_ret2
    have e1 : fromL H l = [] := by rw [HFL.out, if_neg HE.out]
    rw [e1]
    exact ⟨_, rfl, Row.nil _ _, K1.out⟩
end Go.Proofs.YtehmoikbeflkaaaGreat
