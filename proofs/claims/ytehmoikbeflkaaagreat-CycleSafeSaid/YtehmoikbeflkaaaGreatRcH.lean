/- Package reach: Path, Is, Depth. -/
import Derived.Test.YtehmoikbeflkaaaGreatRcF
import Derived.Test.YtehmoikbeflkaaaGreatRcA
import Derived.Shelf.SlicesQ.Reverse
namespace Go.Proofs.YtehmoikbeflkaaaGreat
open Go.RowKit
set_option linter.unusedVariables false
set_option linter.unusedSimpArgs false

theorem rreverse_ok (v : Value) (l : List Rf) (base : Nat) (w : World) (hv : Row w base v l) (hl : ∀ r ∈ l, 0 ≤ r.s ∧ r.s < 4611686018427387904) (hn : l.length ≤ 65536) :
    Calls Tryz.prog 127 #[v] w fun e w' => e = .returned (.tuple #[]) ∧ Row w' base v l.reverse ∧ Keeps (fun k => v.ownBlock = some k) w w' := by
  obtain ⟨ss, rfl⟩ : ∃ ss : List Rs, ss.map (·.1) = l := ⟨l.pmap (fun r h => ⟨r, h⟩) hl, by simp [List.map_pmap]⟩
  rw [List.length_map] at hn
  obtain ⟨hv1, hv2⟩ := hv
  rw [List.length_map] at hv1 hv2
  rcases hv2 with ⟨rfl, h0⟩ | ⟨g, cap, cur, rfl, hb, hg, r1, r2, r3, r4⟩
  · obtain rfl : ss = [] := List.eq_nil_of_length_eq_zero h0
    exact (AnyQ.slices_Reverse_empty lay_rev none 0 w).mono fun e w' ⟨he, hw⟩ => ⟨he, by rw [hw]; exact Row.nil _ _, by rw [hw]; exact Keeps.refl _ _⟩
  · have e0 : (ss.map (·.1)).flatMap encR = ss.flatMap encS := by rw [List.flatMap_map]; rfl
    rw [e0] at hv1 r4
    have hcon := AnyQ.slices_Reverse lay_rev 2 isAgg_ref sizeOf_ref encS (fun _ => rfl) (fun x v hv => by simp [encS, encR] at hv; rcases hv with rfl | rfl <;> rfl) g 0 cap ss.toArray w (holdsK_of hg r4) (by simp; omega)
    refine hcon.mono ?_
    rintro e w' ⟨rfl, n, rfl⟩
    have ew : Go.Sort.putRowK encS 2 (Go.Sort.ahead w n) g 0 ss.toArray.reverse = Go.Proofs.sortWorldK encS 2 w g 0 n ss.reverse.toArray #[] := by
      unfold Go.Proofs.sortWorldK
      rw [Go.Sort.grow_empty, List.reverse_toArray]
    rw [ew]
    refine ⟨rfl, ?_, (keeps_sortedK _).mono (fun k _ h => by subst h; rfl)⟩
    rw [← List.map_reverse]
    refine ⟨?_, .inr ⟨g, cap, _, ?_, hb, heap_sortedK _ hg, ?_, r2, by simp [Go.Sort.putCells, r3], ?_⟩⟩
    · rw [List.flatMap_map]
      show (ss.reverse.flatMap encS).length = _
      rw [flatMap_len, List.length_map]
    · simp
    · simp; exact r1
    · rw [List.flatMap_map, List.length_map]
      exact take_putK cur ss.reverse (by rw [r3, List.length_reverse]; exact Nat.mul_le_mul_right 2 (by omega))
theorem vmap_ne {w : World} {b x : Nat} {q : List (Rf × Value)} (h : VMap w b q) {c : Array Value} {t : TypeId} (hx : w.heap[x]? = some (.cells c t)) : b ≠ x := by
  rintro rfl
  obtain ⟨⟨es, cl, h1, _⟩, _⟩ := h
  rw [h1] at hx
  cases hx
def slLen : Value → Nat
  | .slice _ n _ => n
  | _ => 0
/-! All, Lost -/
theorem tk_th {A : Ar} {r : Rf} (h : r ∈ A.H.T.tk) : There A.H r := by
  obtain ⟨⟨j, g⟩, h1, rfl⟩ := List.mem_map.1 h
  obtain ⟨h2, h3, h4⟩ := Tb.inn_mem h1
  exact There.of (by simp [rfOf]) (by simp [rfOf]; omega) (by simp [rfOf]; exact h2) (by simp [rfOf]; exact h3)
set_option maxHeartbeats 1000000 in
theorem all_ok (a : Nat) (LA : ArL) (A : Ar) (w : World) (h : ArIn w a LA A) (hok : A.Ok) :
    Calls Tryz.prog 31 #[.pointer (some ⟨a, 0, none⟩)] w fun e w' => ∃ v, e = .returned (.tuple #[v, .int .i64 0]) ∧ Row w' w.heap.size v (srt A.rq.keys) ∧ Keeps (fun _ => False) w w' := by
  have HL := hid (look_ok a LA A w h hok)
  have hn256 := hok.n2
  have hl := rq_len A
  have HS := hid (fun v W (hv : Row W w.heap.size v A.rq.keys) => rsort_ok v A.rq.keys w.heap.size W hv (fun r hr => ⟨(rq_there hr).lt.1, by have := (rq_there hr).lt.2.1; omega⟩) (oneSlot_there (fun r hr => rq_there hr)) (by omega))
  clear h hok
  go_enter Tryz.func31, Tryz.ntmps31
  go_wp2_with fail
  refine HL.out.mono ?_
  rintro e w1 ⟨b, t, v, bm, rfl, hh, hr, hm, k1⟩
  obtain ⟨p, c, rfl⟩ := hr.refs.slice
  obtain ⟨wb, hwb⟩ : ∃ wb, w1.alloc (.cells #[.pointer (some ⟨b, 0, none⟩), .slice p A.rq.keys.length c, .map (some bm)] 173) = wb := ⟨_, rfl⟩
  have kb : Keeps (fun _ => False) w1 wb := by rw [← hwb]; exact (Keeps.refl _ _).alloc _
  have qb : wb.heap[w1.heap.size]? = some (.cells #[.pointer (some ⟨b, 0, none⟩), .slice p A.rq.keys.length c, .map (some bm)] 173) := by rw [← hwb]; exact alloc_new
  have HR := hid (hr.keeps kb (fun _ _ _ _ h => h)); have QB := hid qb; have K := hid (k1.trans kb)
  have HSV := hid (HS.out _ wb HR.out)
  clear hh hr hm k1 kb qb HL HS
  subst hwb
  go_wp2_with fail
  refine HSV.out.mono ?_
  rintro e w2 ⟨rfl, hr2, k2⟩
  have hG := own_ne HR.out QB.out (by decide)
  obtain ⟨b0, b1, b2, bl⟩ := cells3 (block_keep QB.out k2 hG)
  have HR2 := hid hr2
  have K2 := hid ((K.out.trans' k2 (U := fun y => w.heap.size ≤ y) (fun _ _ h => h.elim) (fun y _ h => (HR.out.lt y h).1)).fresh)
  clear hr2 k2 hG
  go_wp2_with fail
  go_ret2
  exact ⟨_, rfl, HR2.out, K2.out⟩
theorem lost1 (G b bm : Nat) (v : Value) (q : Qe) (r : Rf) (w : World) (hq : w.heap[G]? = some (.cells #[.pointer (some ⟨b, 0, none⟩), v, .map (some bm)] 173)) (hm : VMap w bm (QV q)) (hn : q.keys.Nodup) (hr : r.Nm) :
    Calls Tryz.prog 122 #[.agg #[.int .i64 r.s, .int .u32 r.g], .pointer (some ⟨G, 0, none⟩)] w fun e w' => e = .returned (.bool (decide (r ∈ q.keys))) ∧ Keeps (fun _ => False) w w' := by
  obtain ⟨c0, c1, c2, cl⟩ := cells3 hq
  have ka : Keeps (fun _ => False) w (w.alloc (.cells #[.int .i64 r.s, .int .u32 r.g] 33)) := (Keeps.refl _ _).alloc _
  have hlook := (hm.keeps ka (fun h => h)).look (t := 145) Tryz.underlying145 (ways_zero _) hr true
  obtain ⟨x, hx⟩ : ∃ x : Rf, Sem.run Tryz.prog (Instr.lookup 145 (.map (some bm)) (.agg #[.int .i64 r.s, .int .u32 r.g]) true) (w.alloc (.cells #[.int .i64 r.s, .int .u32 r.g] 33)) = .ok (.tuple #[.agg #[.int .i64 x.s, .int .u32 x.g], .bool (decide (r ∈ q.keys))]) (w.alloc (.cells #[.int .i64 r.s, .int .u32 r.g] 33)) := by
    rcases hlook with ⟨h1, h2⟩ | ⟨x, h1, h2⟩
    · refine ⟨.no, ?_⟩
      rw [decide_eq_false (fun hk => by
        obtain ⟨y, hy, e⟩ := List.mem_map.1 hk
        exact h1 (y.1, y.2.val) (List.mem_map.2 ⟨y, hy, rfl⟩) e)]
      rw [if_pos rfl] at h2
      exact h2
    · obtain ⟨y, hy, e⟩ := List.mem_map.1 h1
      injection e with e1 e2
      refine ⟨y.2, ?_⟩
      rw [decide_eq_true (QV.yes h1)]
      rw [if_pos rfl, ← e2] at h2
      exact h2
  obtain ⟨is, his⟩ : ∃ is, decide (r ∈ q.keys) = is := ⟨_, rfl⟩
  rw [his] at hx ⊢
  clear hq hm hn hr hlook his ka
  go_enter Tryz.func122, Tryz.ntmps122
  go_wp2_with fail
  go_ret
  exact ⟨rfl, ((Keeps.refl _ _).alloc _).alloc _⟩
def Ar.lostL (A : Ar) : List Rf := A.H.T.tk.filter (fun r => !decide (r ∈ A.rq.keys))
set_option maxHeartbeats 1000000 in
theorem lost_ok (a : Nat) (LA : ArL) (A : Ar) (w : World) (h : ArIn w a LA A) (hok : A.Ok) :
    Calls Tryz.prog 33 #[.pointer (some ⟨a, 0, none⟩)] w fun e w' => ∃ v, e = .returned (.tuple #[v, .int .i64 0]) ∧ Row w' w.heap.size v A.lostL ∧ Keeps (fun _ => False) w w' := by
  have HL := hid (look_ok a LA A w h hok)
  have hn256 := hok.n2
  have HNM := hid (fun r (hr : r ∈ A.H.T.tk) => (show r.Nm from (tk_th hr).nm hn256 (there_wf hok (tk_th hr))))
  have hl := tk_len A.H.T
  have elost : ∀ args w, (callFunc 122 args).run Tryz.prog w = .ok (.enter 122 args) w := enters_of Tryz.func122 (by kernel_rfl) rfl
  clear h hok
  go_enter Tryz.func33, Tryz.ntmps33
  go_wp2_with fail
  refine HL.out.mono ?_
  rintro e w1 ⟨b, t, v, bm, rfl, hh, hr, hm, k1⟩
  obtain ⟨p, c, rfl⟩ := hr.refs.slice
  obtain ⟨wb, hwb⟩ : ∃ wb, w1.alloc (.cells #[.pointer (some ⟨b, 0, none⟩), .slice p A.rq.keys.length c, .map (some bm)] 173) = wb := ⟨_, rfl⟩
  have kb : Keeps (fun _ => False) w1 wb := by rw [← hwb]; exact (Keeps.refl _ _).alloc _
  have qb : wb.heap[w1.heap.size]? = some (.cells #[.pointer (some ⟨b, 0, none⟩), .slice p A.rq.keys.length c, .map (some bm)] 173) := by rw [← hwb]; exact alloc_new
  have HAL := hid (hall_ok b t A.H wb (hh.keeps kb (fun h => h) (fun h => h)))
  have QB := hid qb; have K := hid (k1.trans kb); have HM := hid (hm.keeps kb (fun h => h))
  have hsb : w.heap.size ≤ wb.heap.size := K.out.size
  obtain ⟨G, hG⟩ : ∃ G, w1.heap.size = G := ⟨_, rfl⟩
  rw [hG] at QB
  have hGl := lt_block QB.out
  have hbl := HM.out.lt
  have hb2 := hwb
  clear hh hr hm k1 kb qb HL
  subst hwb
  go_wp2_with fail
  refine HAL.out.mono ?_
  rintro e w2 ⟨v2, rfl, hr2, k2⟩
  have HD := hid (rdelete_row 122 #[.pointer (some ⟨G, 0, none⟩)] (fun r => decide (r ∈ A.rq.keys)) v2 A.H.T.tk _ w2 hr2 (by omega) elost
    (fun x hx W hk => lost1 G b bm _ A.rq x W (block_keep (block_keep QB.out k2 (fun h => h)) hk (fun h => by have := (hr2.lt _ h).1; omega)) ((HM.out.keeps k2 (fun h => h)).keeps hk (fun h => by have := (hr2.lt _ h).1; omega)) (rq_nd A) (HNM.out x hx)))
  have HR2 := hid hr2
  have K2 := hid (K.out.trans k2)
  clear hr2 k2
  try rw [hG]
  go_wp2_with fail
  refine HD.out.mono ?_
  rintro e w3 ⟨v3, rfl, hr3, _, k3⟩
  have HR3 := hid (hr3.mono hsb)
  have K3 := hid ((K2.out.trans' k3 (U := fun y => w.heap.size ≤ y) (fun _ _ h => h.elim) (fun y _ h => by have := (HR2.out.lt y h).1; omega)).fresh)
  clear hr3 k3
  go_wp2_with fail
  go_ret2
  exact ⟨_, rfl, HR3.out, K3.out⟩
def Ar.wayL (A : Ar) (r : Rf) : List Rf := wayQ A.rq r
theorem qv_mem {q : Qe} (hn : q.keys.Nodup) {r : Rf} {v : Value} (h : (r, v) ∈ QV q) : v = (par q r).val := by
  obtain ⟨y, hy, e⟩ := List.mem_map.1 h
  injection e with e1 e2
  rw [← e2, par_of (b := y.2) hn (by rw [← e1]; exact hy)]
theorem VMap.par {w : World} {b : Nat} {q : Qe} {r : Rf} (h : VMap w b (QV q)) (hn : q.keys.Nodup) (hr : r.Nm) (hk : r ∈ q.keys) :
    Sem.run Tryz.prog (Instr.lookup 145 (.map (some b)) (.agg #[.int .i64 r.s, .int .u32 r.g]) false) w = .ok (.agg #[.int .i64 (par q r).s, .int .u32 (par q r).g]) w := by
  rcases h.look (t := 145) Tryz.underlying145 (ways_zero w) hr false with ⟨h1, _⟩ | ⟨x, h1, h2⟩
  · obtain ⟨y, hy, e⟩ := List.mem_map.1 hk
    exact absurd e (h1 (y.1, y.2.val) (List.mem_map.2 ⟨y, hy, rfl⟩))
  · rw [qv_mem hn h1] at h2
    exact h2
theorem rq_exp (A : Ar) : Exp A.H A.orig A.H.T.n A.rq := exp_all A.H A.orig A.H.T.n
theorem way_len {A : Ar} {r : Rf} {u : List Rf} (h : Wy A.rq r u) : u.length ≤ A.H.T.n := by
  have hr := h.len (rq_nd A) r (by have := h.head; cases u with | nil => cases this | cons x u => obtain rfl := Option.some.inj this; simp)
  obtain ⟨x, hx, rfl⟩ := List.mem_map.1 hr
  obtain ⟨j, hj⟩ := List.mem_iff_getElem?.1 hx
  have h1 := Wy.le (rq_exp A) j x hj u h
  have h2 := (List.getElem?_eq_some_iff.1 hj).1
  have h3 : A.rq.length ≤ A.H.T.n := expl_len orig_there _
  omega
set_option maxRecDepth 100000 in
set_option maxHeartbeats 4000000 in
theorem path_ok (a : Nat) (LA : ArL) (A : Ar) (r : Rf) (w : World) (h : ArIn w a LA A) (hok : A.Ok) (hw : r.Wf) :
    Calls Tryz.prog 38 #[.pointer (some ⟨a, 0, none⟩), .agg #[.int .i64 r.s, .int .u32 r.g]] w fun e w' => ∃ v, e = .returned (.tuple #[v, .bool (decide (r ∈ A.rq.keys)), .int .i64 (ckV A.H.T r.s r.g)]) ∧ Row w' w.heap.size v (A.wayL r) ∧ Keeps (fun _ => False) w w' := by
  have HL := hid (fun W (hk : Keeps (fun _ => False) w W) => look_ok a LA A W (h.keeps0 hk) hok)
  obtain ⟨ec, hec⟩ : ∃ ec, ckV A.H.T r.s r.g = ec := ⟨_, rfl⟩
  obtain ⟨is, his⟩ : ∃ is, decide (r ∈ A.rq.keys) = is := ⟨_, rfl⟩
  obtain ⟨wl, hwl⟩ : ∃ wl, A.wayL r = wl := ⟨_, rfl⟩
  have hn256 := hok.n2
  have HNM := hid (fun x (hx : x ∈ A.rq.keys) => (show x.Nm from (rq_there hx).nm hn256 (there_wf hok (rq_there hx))))
  have HEC := hid hec; have HIS := hid his; have HWL := hid hwl; have HWF := hid hw
  obtain ⟨wa, hwa⟩ : ∃ wa, w.alloc (.cells #[.int .i64 r.s, .int .u32 r.g] 33) = wa := ⟨_, rfl⟩
  have ka : Keeps (fun _ => False) w wa := by rw [← hwa]; exact (Keeps.refl _ _).alloc _
  have qa : wa.heap[w.heap.size]? = some (.cells #[.int .i64 r.s, .int .u32 r.g] 33) := by rw [← hwa]; exact alloc_new
  have hsa : wa.heap.size = w.heap.size + 1 := by rw [← hwa]; simp
  have HWA := hid hwa; have KA := hid ka; have QA := hid qa
  rw [hec, his, hwl]
  clear h hok hw ka qa hwa hec his hwl
  go_enter Tryz.func38, Tryz.ntmps38
  go_wp2_with fail
  rw [HWA.out]
  refine (HL.out _ KA.out).mono ?_
  rintro e w1 ⟨b, t, v, bm, rfl, hh, hr, hm, k1⟩
  obtain ⟨p, c, rfl⟩ := hr.refs.slice
  obtain ⟨wb, hwb⟩ : ∃ wb, w1.alloc (.cells #[.pointer (some ⟨b, 0, none⟩), .slice p A.rq.keys.length c, .map (some bm)] 173) = wb := ⟨_, rfl⟩
  have kb : Keeps (fun _ => False) w1 wb := by rw [← hwb]; exact (Keeps.refl _ _).alloc _
  have qb : wb.heap[w1.heap.size]? = some (.cells #[.pointer (some ⟨b, 0, none⟩), .slice p A.rq.keys.length c, .map (some bm)] 173) := by rw [← hwb]; exact alloc_new
  obtain ⟨G, hG⟩ : ∃ G, w1.heap.size = G := ⟨_, rfl⟩
  have hNG : w.heap.size < G := by have := k1.size; omega
  rw [hG] at qb
  have HWB := hid hwb; have QB := hid qb
  have KB := hid (show Keeps (fun _ => False) w wb from (KA.out.trans k1).trans kb)
  have KAB := hid (show Keeps (fun _ => False) wa wb from k1.trans kb)
  obtain ⟨o, ho⟩ := hobject_any b t A.H r wb (hh.keeps kb (fun h => h) (fun h => h))
  rw [HEC.out] at ho
  have HO := hid ho
  have HM := hid (hm.keeps kb (fun h => h))
  obtain ⟨a0, a1, _, al⟩ := cells2 (block_keep QA.out k1 (fun h => h))
  rw [hG] at al
  clear hh hr hm k1 kb qb hwb ho HL hNG
  go_wp2_with fail
  rw [HWB.out]
  clear a0 a1
  have hNG := al
  refine HO.out.mono ?_
  rintro e w2 ⟨rfl, k2⟩
  dsimp only [Ob.arr]
  obtain ⟨wc, hwc⟩ : ∃ wc, w2.alloc (.cells o.arr 136) = wc := ⟨_, rfl⟩
  have kc : Keeps (fun _ => False) wb wc := by rw [← hwc]; exact k2.alloc _
  have KC := hid (KB.out.trans kc)
  unfold Ob.arr at hwc
  have HWC := hid hwc
  obtain ⟨a0, a1, _, al2⟩ := cells2 (block_keep QA.out (KAB.out.trans k2) (fun h => h))
  obtain ⟨b0, b1, b2, bl2⟩ := cells3 (block_keep QB.out k2 (fun h => h))
  have al3 : w.heap.size < w2.heap.size + 1 := by omega
  have bl3 : G < w2.heap.size + 1 := by omega
  have hsc : wc.heap.size = w2.heap.size + 1 := by rw [← hwc]; simp
  have QBC := hid (block_keep QB.out kc (fun h => h))
  have QAC := hid (block_keep QA.out (KAB.out.trans kc) (fun h => h))
  have HMC := hid (HM.out.keeps kc (fun h => h))
  by_cases he : ec = 0
  · subst he
    have hth : There A.H r := HEC.out
    have hnm : r.Nm := hth.nm hn256 HWF.out
    have hlook := HMC.out.look (t := 145) Tryz.underlying145 (ways_zero wc) hnm true
    by_cases hk : r ∈ A.rq.keys
    · have hl2 : Sem.run Tryz.prog (Instr.lookup 145 (.map (some bm)) (.agg #[.int .i64 r.s, .int .u32 r.g]) true) wc = .ok (.tuple #[.agg #[.int .i64 (par A.rq r).s, .int .u32 (par A.rq r).g], .bool true]) wc := by
        rcases hlook with ⟨h1, _⟩ | ⟨x, h1, h2⟩
        · obtain ⟨y, hy, e⟩ := List.mem_map.1 hk
          exact absurd e (h1 (y.1, y.2.val) (List.mem_map.2 ⟨y, hy, rfl⟩))
        · rw [qv_mem (rq_nd A) h1] at h2
          rw [if_pos rfl] at h2
          exact h2
      obtain ⟨U, hU⟩ := Wy.of_key (rq_exp A) hk
      have HU := hid hU
      have HWU := hid (show wl = U.reverse by rw [← HWL.out]; exact wayQ_of (rq_exp A) hk hU)
      have HIS1 := hid (show is = true by rw [← HIS.out]; exact decide_eq_true hk)
      obtain ⟨by0, hby⟩ : ∃ by0, par A.rq r = by0 := ⟨_, rfl⟩
      rw [hby] at hl2
      obtain ⟨wd, hwd⟩ : ∃ wd, wc.alloc (.cells #[.int .i64 by0.s, .int .u32 by0.g] 33) = wd := ⟨_, rfl⟩
      have kd : Keeps (fun _ => False) wc wd := by rw [← hwd]; exact (Keeps.refl _ _).alloc _
      have qd : wd.heap[wc.heap.size]? = some (.cells #[.int .i64 by0.s, .int .u32 by0.g] 33) := by rw [← hwd]; exact alloc_new
      have hsd : wd.heap.size = wc.heap.size + 1 := by rw [← hwd]; simp
      obtain ⟨B, hB⟩ : ∃ B, wc.heap.size = B := ⟨_, rfl⟩
      rw [hB] at qd
      have hGB : G < B := by have := lt_block QBC.out; omega
      have HWD := hid hwd; have QD := hid qd
      have QAD := hid (block_keep QAC.out kd (fun h => h)); have QBD := hid (block_keep QBC.out kd (fun h => h)); have HMD := hid (HMC.out.keeps kd (fun h => h))
      have KD := hid (KC.out.trans kd)
      have HBY := hid hby
      obtain ⟨we, hwe⟩ : ∃ we, wd.alloc (.cells #[.int .i64 r.s, .int .u32 r.g] 33) = we := ⟨_, rfl⟩
      have kee : Keeps (fun _ => False) wd we := by rw [← hwe]; exact (Keeps.refl _ _).alloc _
      have qe : we.heap[wd.heap.size]? = some (.cells #[.int .i64 r.s, .int .u32 r.g] 33) := by rw [← hwe]; exact alloc_new
      have HRE := hid (show Row we (B + 1) (.slice (some ⟨wd.heap.size, 0, none⟩) 1 1) [r] from row_of (l := [r]) (by omega) qe (Nat.le_refl _) (by unfold maxLen; omega) rfl (fun j q hj => by
        match j, hj with
        | 0, hj => obtain rfl : r = q := Option.some.inj hj; exact ⟨rfl, rfl⟩))
      have HWE := hid hwe
      have KE := hid kee
      have hnm0 := hnm
      have hB2 : w2.heap.size + 1 = B := by omega
      have hB3 : wd.heap.size = B + 1 := by omega
      have al4 : w.heap.size < B := by omega
      rw [hB3] at HRE
      rw [← hwc] at hl2
      clear hlook hk hU hby kd qd hwd kc k2 hwc qe kee hwe hth hB hsd hsc
      go_wp2_with fail
      rw [HWC.out, HWD.out, HWE.out]
      clear hl2 a0 a1 b0 b1 b2
      go_loopw [13] (fun s13 wr => ∃ (pre u : List Rf) (cur : Rf) (p : Option Addr) (c : Nat), s13 = .slice p (pre ++ [cur]).length c ∧ Hid (Row wr (B + 1) (.slice p (pre ++ [cur]).length c) (pre ++ [cur])) ∧ Hid (Wy A.rq cur u) ∧ Hid (pre ++ u = U) ∧
        Hid (wr.heap[w.heap.size]? = some (.cells #[.int .i64 cur.s, .int .u32 cur.g] 33)) ∧ Hid (wr.heap[B]? = some (.cells #[.int .i64 (par A.rq cur).s, .int .u32 (par A.rq cur).g] 33)) ∧ Hid (Keeps (fun y => y = w.heap.size ∨ B ≤ y) wd wr)) (fun s13 _ => U.length + 1 - slLen s13)
      case atStart =>
        exact ⟨[], U, r, _, 1, rfl, HRE, HU, hid rfl, hid (block_keep QAD.out KE.out (fun h => h)), hid (by rw [HBY.out]; exact block_keep QD.out KE.out (fun h => h)), hid KE.out.up⟩
      case round =>
        obtain ⟨pre, u, cur, p3, c3, rfl, HR, HY, HP, Q3, Q11, HK⟩ := hrel
        obtain ⟨y0, y1, yf, yl⟩ := cells2 Q3.out
        obtain ⟨z0, z1, zf, zl⟩ := cells2 Q11.out
        have hneq := fun W => neq_ref W (par A.rq cur).s (par A.rq cur).g cur.s cur.g
        simp only [Rf.eq_iff] at hneq
        obtain ⟨bb, hbb⟩ : ∃ bb, par A.rq cur = bb := ⟨_, rfl⟩
        have HBB := hid hbb
        rw [hbb] at hneq z0 z1 Q11
        clear hbb
        have hUn : U.length ≤ A.H.T.n := way_len HU.out
        have hlen : (pre ++ [cur]).length = pre.length + 1 := by simp
        have hr := HR.out
        rw [hlen] at hr ⊢
        have HYC := HY.out
        cases HYC with
        | top h1 =>
          have hb : bb = cur := by rw [← HBB.out]; exact par_of (rq_nd A) h1
          have hd : decide (bb = cur) = true := decide_eq_true hb
          rw [hd] at hneq
          have hlU : (pre ++ [cur]).length ≤ 256 := by rw [HP.out]; omega
          have HRV := hid (rreverse_ok _ (pre ++ [cur]) (B + 1) wr hr (fun x hx => by
            rw [HP.out] at hx
            have := HNM.out x (HU.out.len (rq_nd A) x hx)
            exact ⟨this.s0, this.s1⟩) (by omega))
          have HR2 := hid hr
          clear hd hb h1 HY hr hlU hUn
          go_wp2_with fail
          refine HRV.out.mono ?_
          rintro e w5 ⟨rfl, hr5, k5⟩
          have HR5 := hid hr5; have K5 := hid k5
          clear hr5 k5
          go_wp2_with fail
          go_ret3
          refine ⟨.slice p3 (pre.length + 1) c3, by rw [HIS1.out]; rfl, ?_, ?_⟩
          · rw [HWU.out, ← HP.out]
            exact HR5.out.mono (by omega)
          · exact ((KD.out.trans' HK.out (U := fun y => w.heap.size ≤ y) (fun _ _ h => h.elim) (fun y _ h => by omega)).trans' K5.out (fun _ _ h => h) (fun y _ h => by have := (HR2.out.lt y h).1; omega)).fresh
        | @step _ b' u' h1 h2 h3 =>
          obtain rfl : bb = b' := by rw [← HBB.out]; exact par_of (rq_nd A) h1
          have hd : decide (bb = cur) = false := decide_eq_false h2
          rw [hd] at hneq
          have hbk : bb ∈ A.rq.keys := h3.len (rq_nd A) bb (by have := h3.head; cases u' with | nil => cases this | cons x u => obtain rfl := Option.some.inj this; simp)
          have hbn := HNM.out bb hbk
          have HY3 := hid h3
          have HBK := hid hbk
          have HPU := hid HP.out
          have hul : 1 ≤ u'.length := by have := h3.ne; cases u' with | nil => exact absurd rfl this | cons x u => simp
          have hpl : pre.length + 1 + u'.length ≤ A.H.T.n := by have := congrArg List.length HP.out; simp at this; omega
          obtain ⟨ws, hws⟩ : ∃ ws, (wr.setCell ⟨w.heap.size, 0, none⟩ (.int .i64 bb.s)).setCell ⟨w.heap.size, 1, none⟩ (.int .u32 bb.g) = ws := ⟨_, rfl⟩
          have ks : Keeps (fun y => y = w.heap.size) wr ws := by
            rw [← hws]
            exact Keeps.setCell (p := ⟨w.heap.size, 1, none⟩) (Keeps.setCell (p := ⟨w.heap.size, 0, none⟩) (Keeps.refl (fun y => y = w.heap.size) wr) (.inl rfl) _) (.inl rfl) _
          have q3s : ws.heap[w.heap.size]? = some (.cells #[.int .i64 bb.s, .int .u32 bb.g] 33) := by rw [← hws]; exact set_block (set_block Q3.out 0 _) 1 _
          have hsws : ws.heap.size = wr.heap.size := by rw [← hws]; simp
          have HWS := hid hws
          have KS := hid ks; have Q3S := hid q3s
          have HVS := hid (hr.keeps ks (fun y h1 _ _ h => by omega))
          have HRO := hid (refs_one (alloc_new (w := ws) (o := .cells #[.int .i64 bb.s, .int .u32 bb.g] 33)))
          have HVD := hid (HVS.out.keeps ((Keeps.refl (fun _ => False) _).alloc (.cells #[.int .i64 bb.s, .int .u32 bb.g] 33)) (fun _ _ _ _ h => h))
          have KA := hid ((KS.out.alloc (.cells #[.int .i64 bb.s, .int .u32 bb.g] 33)))
          have Q3A := hid (alloc_old (o := .cells #[.int .i64 bb.s, .int .u32 bb.g] 33) Q3S.out)
          rw [hsws] at HRO
          rw [← hws] at HRO HVD KA Q3A
          have HVDL := hid HVD.out.lt
          have hsA : B + 1 ≤ wr.heap.size := by have := HK.out.size; omega
          have HBMS := hid (fun (W : World) (hk : Keeps (fun y => y = w.heap.size ∨ B ≤ y) wd W) => (show VMap W bm (QV A.rq) ∧ W.heap[G]? = some (.cells #[.pointer (some ⟨b, 0, none⟩), .slice p A.rq.keys.length c, .map (some bm)] 173) from
            ⟨HMD.out.keeps hk (fun h => by
              rcases h with h | h
              · exact vmap_ne HMD.out QAD.out h
              · have h1 := HMC.out.lt; have h2 := lt_block QD.out; have h3 := vmap_ne HMD.out QD.out; have h4 := HMD.out.lt; omega), block_keep QBD.out hk (by omega)⟩))
          clear ks q3s hws hd h1 h2 h3 hr hbk HY
          go_wp2_with (first
            | (at_builtin; refine wpList_append_refs _ rfl _ _ rfl (B + 1) _ _ (pre ++ [cur]) [bb] rfl rfl HVD.out HRO.out (by rw [List.length_singleton]; omega) (by simp; omega) ?_; intro v5 w5 hr5 hk5 ho5; obtain ⟨p5, c5, rfl⟩ := hr5.refs.slice; rw [show (pre ++ [cur] ++ [bb]).length = pre.length + 1 + 1 from by simp] at hr5; have k5 := KA.out.trans' hk5 (U := fun y => y = w.heap.size ∨ B < y) (fun _ _ h => .inl h) (fun y _ h => .inr (by have := (HVDL.out y h).1; omega)); have k5d := HK.out.trans' k5 (fun _ _ h => h) (fun y _ h => by omega); obtain ⟨m5, g5⟩ := HBMS.out w5 k5d; obtain ⟨f0, f1, f2, fl⟩ := cells3 g5; have q35 := block_keep Q3A.out hk5 (fun h => by have := (HVDL.out _ h).1; omega); obtain ⟨d0, d1, df, dl⟩ := cells2 q35; have q11 := block_keep Q11.out k5 (by omega); obtain ⟨e0, e1, ef, el⟩ := cells2 q11; have hl5 := m5.par (rq_nd A) hbn HBK.out; have HR5 := hid hr5; have K5 := hid k5d; have Q35 := hid q35; have Q115 := hid q11; clear hr5 hk5 ho5 k5 k5d m5 g5 q35 q11)
            | fail)
          obtain ⟨w6, hw6⟩ : ∃ w6, (w5.setCell ⟨B, 0, none⟩ (.int .i64 (par A.rq bb).s)).setCell ⟨B, 1, none⟩ (.int .u32 (par A.rq bb).g) = w6 := ⟨_, rfl⟩
          have k6 : Keeps (fun y => y = B) w5 w6 := by
            rw [← hw6]
            exact Keeps.setCell (p := ⟨B, 1, none⟩) (Keeps.setCell (p := ⟨B, 0, none⟩) (Keeps.refl (fun y => y = B) w5) (.inl rfl) _) (.inl rfl) _
          have q6 : w6.heap[B]? = some (.cells #[.int .i64 (par A.rq bb).s, .int .u32 (par A.rq bb).g] 33) := by rw [← hw6]; exact set_block (set_block Q115.out 0 _) 1 _
          rw [hw6]
          have e7 : (pre ++ [cur] ++ [bb]).length = pre.length + 1 + 1 := by simp
          refine ⟨⟨pre ++ [cur], u', bb, p5, c5, ?_, ?_, HY3, hid (by rw [List.append_assoc]; exact HPU.out), hid (block_keep Q35.out k6 (by omega)), hid q6, hid (K5.out.trans' k6 (fun _ _ h => h) (fun y _ h => by omega))⟩, ?_⟩
          · rw [e7]
          · rw [e7]; exact hid (HR5.out.keeps k6 (fun y h1 _ _ h => by omega))
          · have hul2 : U.length = pre.length + (u'.length + 1) := by rw [← HPU.out]; simp
            simp only [slLen]
            omega
    · have hl2 : Sem.run Tryz.prog (Instr.lookup 145 (.map (some bm)) (.agg #[.int .i64 r.s, .int .u32 r.g]) true) wc = .ok (.tuple #[.agg #[.int .i64 0, .int .u32 0], .bool false]) wc := by
        rcases hlook with ⟨_, h2⟩ | ⟨x, h1, _⟩
        · rw [if_pos rfl] at h2; exact h2
        · exact absurd (QV.yes h1) hk
      have HIS1 := hid (show is = false by rw [← HIS.out]; exact decide_eq_false hk)
      have HW1 := hid (show wl = [] by rw [← HWL.out]; exact if_neg hk)
      rw [← hwc] at hl2
      clear hlook hk kc k2 hwc hsc hth
      go_wp2_with fail
      rw [HWC.out]
      go_ret3
      refine ⟨.slice none 0 0, by rw [HIS1.out]; rfl, ?_, KC.out.alloc _⟩
      rw [HW1.out]
      exact Row.nil _ _
  · have hne : (ec == 0) = false := by simpa using he
    have hnk : r ∉ A.rq.keys := fun hk => he (HEC.out.symm.trans (rq_there hk))
    have HIS1 := hid (show is = false by rw [← HIS.out]; exact decide_eq_false hnk)
    have HW1 := hid (show wl = [] by rw [← HWL.out]; exact if_neg hnk)
    clear he hnk kc k2 hwc hsc
    go_wp2_with fail
    rw [HWC.out]
    go_ret3
    refine ⟨.slice none 0 0, by rw [HIS1.out]; rfl, ?_, KC.out⟩
    rw [HW1.out]
    exact Row.nil _ _
end Go.Proofs.YtehmoikbeflkaaaGreat

/- Package reach: Is, Depth, Closed. -/
namespace Go.Proofs.YtehmoikbeflkaaaGreat
open Go.RowKit
attribute [local go_sem] Oper.semAt_some
set_option linter.unusedVariables false
set_option linter.unusedSimpArgs false

theorem is_ok (a : Nat) (LA : ArL) (A : Ar) (r : Rf) (w : World) (h : ArIn w a LA A) (hok : A.Ok) (hw : r.Wf) :
    Calls Tryz.prog 36 #[.pointer (some ⟨a, 0, none⟩), .agg #[.int .i64 r.s, .int .u32 r.g]] w fun e w' => e = .returned (.tuple #[.bool (decide (r ∈ A.rq.keys)), .int .i64 (ckV A.H.T r.s r.g)]) ∧ Keeps (fun _ => False) w w' := by
  have HP := hid (fun W (hk : Keeps (fun _ => False) w W) => path_ok a LA A r W (h.keeps0 hk) hok hw)
  obtain ⟨ec, hec⟩ : ∃ ec, ckV A.H.T r.s r.g = ec := ⟨_, rfl⟩
  obtain ⟨is, his⟩ : ∃ is, decide (r ∈ A.rq.keys) = is := ⟨_, rfl⟩
  rw [hec, his] at HP ⊢
  clear h hok hw hec his
  go_enter Tryz.func36, Tryz.ntmps36
  go_wp2_with fail
  refine (HP.out _ ((Keeps.refl _ _).alloc _)).mono ?_
  rintro e w1 ⟨v, rfl, hr, k1⟩
  have K := hid (((Keeps.refl (fun _ => False) w).alloc (.cells #[.int .i64 r.s, .int .u32 r.g] 33)).trans k1)
  clear hr k1
  go_wp2_with fail
  go_ret2
  exact ⟨rfl, K.out⟩
end Go.Proofs.YtehmoikbeflkaaaGreat

namespace Go.Proofs.YtehmoikbeflkaaaGreat
open Go.RowKit
set_option linter.unusedVariables false
set_option linter.unusedSimpArgs false

structure Ay (N : Nat) (w0 w : World) (a : Nat) (L : ArL) (A : Ar) : Prop where
  ar : ArIn w a L A
  ok : A.Ok
  lo : ∀ y, L.foot A.many y → N ≤ y
  k : Keeps (fun y => N ≤ y) w0 w
variable {N : Nat} {w0 w w' : World} {a : Nat} {L : ArL} {A A' : Ar}
theorem Ay.op (h : Ay N w0 w a L A) (hk : Keeps (fun y => L.foot A.many y) w w') (ha : ArIn w' a L A') (ok : A'.Ok) (hm : A'.many = A.many) : Ay N w0 w' a L A' :=
  ⟨ha, ok, fun y hy => h.lo y (by rw [← hm]; exact hy), h.k.trans' hk (fun _ _ h => h) (fun y _ hy => h.lo y hy)⟩
theorem Ay.make (h : Ay N w0 w a L A) (m n : Int) (hd : Bool) : Calls Tryz.prog 99 #[.pointer (some ⟨a, 0, none⟩), .int .i64 m, .int .i64 n, .bool hd] w
    fun e w' => e = .returned (.tuple #[(A.makeR m n hd).now.val, .int .i64 (A.makeR m n hd).e]) ∧ Ay N w0 w' a L (A.makeR m n hd).A ∧ Keeps (fun y => L.foot A.many y) w w' :=
  (amake_any a L A m n hd w h.ar h.ok).mono fun _ _ ⟨h1, h2, h3⟩ => ⟨h1, h.op h2 h3 (h.ok.makeR _ _ _) (A.makeR_n _ _ _).2, h2⟩
theorem Ay.store (h : Ay N w0 w a L A) (m i f j : Int) : Calls Tryz.prog 103 #[.pointer (some ⟨a, 0, none⟩), .int .i64 m, .int .i64 i, .int .i64 f, .int .i64 j] w
    fun e w' => e = .returned (.tuple #[(A.storeR m i f j).was.val, (A.storeR m i f j).now.val, .int .i64 (A.storeR m i f j).e]) ∧ Ay N w0 w' a L (A.storeR m i f j).A ∧ Keeps (fun y => L.foot A.many y) w w' :=
  (astore_any a L A m i f j w h.ar h.ok).mono fun _ _ ⟨h1, h2, h3⟩ => ⟨h1, h.op h2 h3 (h.ok.storeR _ _ _ _) (A.storeR_n _ _ _ _).2, h2⟩
theorem Ay.put (h : Ay N w0 w a L A) (m i k : Int) : Calls Tryz.prog 106 #[.pointer (some ⟨a, 0, none⟩), .int .i64 m, .int .i64 i, .int .i64 k] w
    fun e w' => e = .returned (.tuple #[(A.putR m i k).was.val, (A.putR m i k).now.val, .int .i64 (A.putR m i k).e]) ∧ Ay N w0 w' a L (A.putR m i k).A ∧ Keeps (fun y => L.foot A.many y) w w' :=
  (aput_any a L A m i k w h.ar h.ok).mono fun _ _ ⟨h1, h2, h3⟩ => ⟨h1, h.op h2 h3 (h.ok.putR _ _ _) (A.putR_n _ _ _).2, h2⟩
theorem Ay.drop (h : Ay N w0 w a L A) (m i : Int) : Calls Tryz.prog 88 #[.pointer (some ⟨a, 0, none⟩), .int .i64 m, .int .i64 i] w
    fun e w' => e = .returned (.tuple #[(A.dropR m i).now.val, .int .i64 (A.dropR m i).e]) ∧ Ay N w0 w' a L (A.dropR m i).A ∧ Keeps (fun y => L.foot A.many y) w w' :=
  (adrop_any a L A m i w h.ar).mono fun _ _ ⟨h1, h2, h3⟩ => ⟨h1, h.op h2 h3 (h.ok.dropR _ _) (A.dropR_n _ _).2, h2⟩
theorem Ay.load (h : Ay N w0 w a L A) (m i f : Int) : Calls Tryz.prog 101 #[.pointer (some ⟨a, 0, none⟩), .int .i64 m, .int .i64 i, .int .i64 f] w
    fun e w' => e = .returned (.tuple #[(A.loadR m i f).now.val, .int .i64 (A.loadR m i f).e]) ∧ Ay N w0 w' a L (A.loadR m i f).A ∧ Keeps (fun y => L.foot A.many y) w w' :=
  (aload_any a L A m i f w h.ar h.ok).mono fun _ _ ⟨h1, h2, h3⟩ => ⟨h1, h.op h2 h3 (h.ok.loadR _ _ _) (A.loadR_n _ _ _).2, h2⟩
theorem Ay.get (h : Ay N w0 w a L A) (m k : Int) : Calls Tryz.prog 108 #[.pointer (some ⟨a, 0, none⟩), .int .i64 m, .int .i64 k] w
    fun e w' => e = .returned (.tuple #[(A.getR m k).now.val, .int .i64 (A.getR m k).e]) ∧ Ay N w0 w' a L (A.getR m k).A ∧ Keeps (fun y => L.foot A.many y) w w' :=
  (aget_any a L A m k w h.ar h.ok).mono fun _ _ ⟨h1, h2, h3⟩ => ⟨h1, h.op h2 h3 (h.ok.getR _ _) (A.getR_n _ _).2, h2⟩
theorem Ay.free (h : Ay N w0 w a L A) (r : Rf) : Calls Tryz.prog 110 #[.pointer (some ⟨a, 0, none⟩), .agg #[.int .i64 r.s, .int .u32 r.g]] w
    fun e w' => e = .returned (.int .i64 (A.freeR r).2) ∧ Ay N w0 w' a L (A.freeR r).1 ∧ Keeps (fun y => L.foot A.many y) w w' :=
  (afree_any a L A r w h.ar h.ok).mono fun _ _ ⟨h1, h2, h3⟩ => ⟨h1, h.op h2 h3 (h.ok.freeR _) (A.freeR_n _).2, h2⟩
theorem Ay.new (n k : Nat) (w : World) (n1 : 1 ≤ n) (n2 : n ≤ 256) (k1 : 1 ≤ k) (k4 : k ≤ 4) :
    Calls Tryz.prog 24 #[.int .i64 n, .int .i64 k, .int .u32 1] w fun e w' => ∃ a L, e = .returned (.tuple #[.pointer (some ⟨a, 0, none⟩), .int .i64 0]) ∧ Ay w.heap.size w w' a L (Ar.new n k 1) := by
  refine (anew_ok n k 1 w (by omega) (by omega) k1 k4 (by omega) (by omega)).mono ?_
  rintro e w' ⟨a, rfl, hk, L, h1, h2⟩
  rw [Int.toNat_natCast] at h1 h2
  refine ⟨a, L, rfl, h1, Ar.Ok.new n1 n2 k1 k4 (by omega) (by omega), fun y hy => ?_, hk.up⟩
  rcases hy with rfl | rfl | rfl | ⟨j, hj, rfl⟩
  · exact h2.b.1
  · exact h2.t.1
  · exact h2.g.1
  · exact (h2.ss j hj).1
def IntsB (w : World) (v : Value) (l : List Int) : Prop := ∃ b c cur, v = .slice (some ⟨b, 0, none⟩) l.length c ∧ w.heap[b]? = some (.cells cur 3) ∧ ∀ (j : Nat) (x : Int), l[j]? = some x → cur[j]? = some (.int .i64 x)
theorem IntsB.keeps {v : Value} {l : List Int} (h : IntsB w v l) (hk : Keeps (fun _ => False) w w') : IntsB w' v l := by
  obtain ⟨b, c, cur, h1, h2, h3⟩ := h
  exact ⟨b, c, cur, h1, block_keep h2 hk (fun h => h), h3⟩
/-! the example -/
end Go.Proofs.YtehmoikbeflkaaaGreat
