/- Package reach: Path, Is, Depth. -/
import Derived.Test.YtehmoikbeflkaaaGreatRcF
import Derived.Test.YtehmoikbeflkaaaGreatRcA
import Derived.Shelf.SlicesQ.Reverse
namespace Go.Proofs.YtehmoikbeflkaaaGreat
open Go.RowKit
set_option linter.unusedVariables false
set_option linter.unusedSimpArgs false

/-! All, Lost -/
theorem tk_th {A : Ar} {r : Rf} (h : r ∈ A.H.T.tk) : There A.H r := by
  obtain ⟨⟨j, g⟩, h1, rfl⟩ := List.mem_map.1 h
  obtain ⟨h2, h3, h4⟩ := Tb.inn_mem h1
  exact There.of (by simp [rfOf]) (by simp [rfOf]; omega) (by simp [rfOf]; exact h2) (by simp [rfOf]; exact h3)
set_option maxHeartbeats 1000000 in
theorem all_ok (a : Nat) (LA : ArL) (A : Ar) (w : World) (h : ArIn w a LA A) (hok : A.Ok) :
    Calls Tryz.prog 31 #[.pointer (some ⟨a, 0, none⟩)] w fun e w' => ∃ v, e = .returned (.tuple #[v, .int .i64 0]) ∧ Row w' w.heap.size v (srt A.rq.keys) ∧ Keeps (fun _ => False) w w' := by
  have HL := hid (look_ok a LA A w h hok)
  have hn256 := hok.n2
  have hl := rq_len A
  have HS := hid (fun v W (hv : Row W w.heap.size v A.rq.keys) => rsort_ok v A.rq.keys w.heap.size W hv (fun r hr => ⟨(rq_there hr).lt.1, by have := (rq_there hr).lt.2.1; omega⟩) (oneSlot_there (fun r hr => rq_there hr)) (by omega))
  clear h hok
  go_enter Tryz.func31, Tryz.ntmps31
  go_wp2_with fail
  refine HL.out.mono ?_
  rintro e w1 ⟨b, t, v, bm, rfl, hh, hr, hm, k1⟩
  obtain ⟨p, c, rfl⟩ := hr.refs.slice
  obtain ⟨wb, hwb⟩ : ∃ wb, w1.alloc (.cells #[.pointer (some ⟨b, 0, none⟩), .slice p A.rq.keys.length c, .map (some bm)] 173) = wb := ⟨_, rfl⟩
  have kb : Keeps (fun _ => False) w1 wb := by rw [← hwb]; exact (Keeps.refl _ _).alloc _
  have qb : wb.heap[w1.heap.size]? = some (.cells #[.pointer (some ⟨b, 0, none⟩), .slice p A.rq.keys.length c, .map (some bm)] 173) := by rw [← hwb]; exact alloc_new
  have HR := hid (hr.keeps kb (fun _ _ _ _ h => h)); have QB := hid qb; have K := hid (k1.trans kb)
  have HSV := hid (HS.out _ wb HR.out)
  clear hh hr hm k1 kb qb HL HS
  subst hwb
  go_wp2_with fail
  refine HSV.out.mono ?_
  rintro e w2 ⟨rfl, hr2, k2⟩
  have hG := own_ne HR.out QB.out (by decide)
  obtain ⟨b0, b1, b2, bl⟩ := cells3 (block_keep QB.out k2 hG)
  have HR2 := hid hr2
  have K2 := hid ((K.out.trans' k2 (U := fun y => w.heap.size ≤ y) (fun _ _ h => h.elim) (fun y _ h => (HR.out.lt y h).1)).fresh)
  clear hr2 k2 hG
  go_wp2_with fail
  go_ret2
  exact ⟨_, rfl, HR2.out, K2.out⟩
theorem lost1 (G b bm : Nat) (v : Value) (q : Qe) (r : Rf) (w : World) (hq : w.heap[G]? = some (.cells #[.pointer (some ⟨b, 0, none⟩), v, .map (some bm)] 173)) (hm : VMap w bm (QV q)) (hn : q.keys.Nodup) (hr : r.Nm) :
    Calls Tryz.prog 122 #[.agg #[.int .i64 r.s, .int .u32 r.g], .pointer (some ⟨G, 0, none⟩)] w fun e w' => e = .returned (.bool (decide (r ∈ q.keys))) ∧ Keeps (fun _ => False) w w' := by
  obtain ⟨c0, c1, c2, cl⟩ := cells3 hq
  have ka : Keeps (fun _ => False) w (w.alloc (.cells #[.int .i64 r.s, .int .u32 r.g] 33)) := (Keeps.refl _ _).alloc _
  have hlook := (hm.keeps ka (fun h => h)).look (t := 145) Tryz.underlying145 (ways_zero _) hr true
  obtain ⟨x, hx⟩ : ∃ x : Rf, Sem.run Tryz.prog (Instr.lookup 145 (.map (some bm)) (.agg #[.int .i64 r.s, .int .u32 r.g]) true) (w.alloc (.cells #[.int .i64 r.s, .int .u32 r.g] 33)) = .ok (.tuple #[.agg #[.int .i64 x.s, .int .u32 x.g], .bool (decide (r ∈ q.keys))]) (w.alloc (.cells #[.int .i64 r.s, .int .u32 r.g] 33)) := by
    rcases hlook with ⟨h1, h2⟩ | ⟨x, h1, h2⟩
    · refine ⟨.no, ?_⟩
      rw [decide_eq_false (fun hk => by
        obtain ⟨y, hy, e⟩ := List.mem_map.1 hk
        exact h1 (y.1, y.2.val) (List.mem_map.2 ⟨y, hy, rfl⟩) e)]
      rw [if_pos rfl] at h2
      exact h2
    · obtain ⟨y, hy, e⟩ := List.mem_map.1 h1
      injection e with e1 e2
      refine ⟨y.2, ?_⟩
      rw [decide_eq_true (QV.yes h1)]
      rw [if_pos rfl, ← e2] at h2
      exact h2
  obtain ⟨is, his⟩ : ∃ is, decide (r ∈ q.keys) = is := ⟨_, rfl⟩
  rw [his] at hx ⊢
  clear hq hm hn hr hlook his ka
  go_enter Tryz.func122, Tryz.ntmps122
  go_wp2_with fail
  go_ret
  exact ⟨rfl, ((Keeps.refl _ _).alloc _).alloc _⟩
def Ar.lostL (A : Ar) : List Rf := A.H.T.tk.filter (fun r => !decide (r ∈ A.rq.keys))
set_option maxHeartbeats 1000000 in
theorem lost_ok (a : Nat) (LA : ArL) (A : Ar) (w : World) (h : ArIn w a LA A) (hok : A.Ok) :
    Calls Tryz.prog 33 #[.pointer (some ⟨a, 0, none⟩)] w fun e w' => ∃ v, e = .returned (.tuple #[v, .int .i64 0]) ∧ Row w' w.heap.size v A.lostL ∧ Keeps (fun _ => False) w w' := by
  have HL := hid (look_ok a LA A w h hok)
  have hn256 := hok.n2
  have HNM := hid (fun r (hr : r ∈ A.H.T.tk) => (show r.Nm from (tk_th hr).nm hn256 (there_wf hok (tk_th hr))))
  have hl := tk_len A.H.T
  have elost : ∀ args w, (callFunc 122 args).run Tryz.prog w = .ok (.enter 122 args) w := enters_of Tryz.func122 (by kernel_rfl) rfl
  clear h hok
  go_enter Tryz.func33, Tryz.ntmps33
  go_wp2_with fail
  refine HL.out.mono ?_
  rintro e w1 ⟨b, t, v, bm, rfl, hh, hr, hm, k1⟩
  obtain ⟨p, c, rfl⟩ := hr.refs.slice
  obtain ⟨wb, hwb⟩ : ∃ wb, w1.alloc (.cells #[.pointer (some ⟨b, 0, none⟩), .slice p A.rq.keys.length c, .map (some bm)] 173) = wb := ⟨_, rfl⟩
  have kb : Keeps (fun _ => False) w1 wb := by rw [← hwb]; exact (Keeps.refl _ _).alloc _
  have qb : wb.heap[w1.heap.size]? = some (.cells #[.pointer (some ⟨b, 0, none⟩), .slice p A.rq.keys.length c, .map (some bm)] 173) := by rw [← hwb]; exact alloc_new
  have HAL := hid (hall_ok b t A.H wb (hh.keeps kb (fun h => h) (fun h => h)))
  have QB := hid qb; have K := hid (k1.trans kb); have HM := hid (hm.keeps kb (fun h => h))
  have hsb : w.heap.size ≤ wb.heap.size := K.out.size
  obtain ⟨G, hG⟩ : ∃ G, w1.heap.size = G := ⟨_, rfl⟩
  rw [hG] at QB
  have hGl := lt_block QB.out
  have hbl := HM.out.lt
  have hb2 := hwb
  clear hh hr hm k1 kb qb HL
  subst hwb
  go_wp2_with fail
  refine HAL.out.mono ?_
  rintro e w2 ⟨v2, rfl, hr2, k2⟩
  have HD := hid (rdelete_row 122 #[.pointer (some ⟨G, 0, none⟩)] (fun r => decide (r ∈ A.rq.keys)) v2 A.H.T.tk _ w2 hr2 (by omega) elost
    (fun x hx W hk => lost1 G b bm _ A.rq x W (block_keep (block_keep QB.out k2 (fun h => h)) hk (fun h => by have := (hr2.lt _ h).1; omega)) ((HM.out.keeps k2 (fun h => h)).keeps hk (fun h => by have := (hr2.lt _ h).1; omega)) (rq_nd A) (HNM.out x hx)))
  have HR2 := hid hr2
  have K2 := hid (K.out.trans k2)
  clear hr2 k2
  try rw [hG]
  go_wp2_with fail
  refine HD.out.mono ?_
  rintro e w3 ⟨v3, rfl, hr3, _, k3⟩
  have HR3 := hid (hr3.mono hsb)
  have K3 := hid ((K2.out.trans' k3 (U := fun y => w.heap.size ≤ y) (fun _ _ h => h.elim) (fun y _ h => by have := (HR2.out.lt y h).1; omega)).fresh)
  clear hr3 k3
  go_wp2_with fail
  go_ret2
  exact ⟨_, rfl, HR3.out, K3.out⟩
end Go.Proofs.YtehmoikbeflkaaaGreat

/- Package reach: Is, Depth, Closed. -/
namespace Go.Proofs.YtehmoikbeflkaaaGreat
open Go.RowKit
attribute [local go_sem] Oper.semAt_some
set_option linter.unusedVariables false
set_option linter.unusedSimpArgs false

theorem leave_marks {P : Program} {fn : Func} {R : Ending → World → Prop} {tmps : Array Value} : ∀ (ds : List Nat) (W : World), ds.Nodup → (∀ D ∈ ds, W.heap[D]? = some (.deferred (some []))) →
    (∀ W', Keeps (fun k => k ∈ ds) W W' → ∃ v, (results fn tmps).run P W' = .ok v W' ∧ R (.returned v) W') →
    LeavesInM Wd 0 P fn tmps R (ds.map fun D => { target := .collected D, args := #[] }) .returning W
  | [], W, _, _, h => by
    obtain ⟨v, h1, h2⟩ := h W (Keeps.refl _ _)
    exact ⟨v, h1, h2⟩
  | D :: ds, W, hn, hD, h => by
    obtain ⟨n1, n2⟩ := List.nodup_cons.1 hn
    refine ⟨by simp, .inl ⟨_, _, rfl, run_takeDeferred (hD D (by simp)), leave_marks ds _ n2 (fun E hE => ?_) (fun W' hk => h W' ?_)⟩⟩
    · exact (World.putObj_heap_other (fun e => n1 (by rw [e] at hE; exact hE))).trans (hD E (by simp [hE]))
    · exact ((Keeps.refl (fun k => k ∈ D :: ds) W).putObj (r := D) (.inl (by simp)) (.deferred none)).trans (hk.mono (fun y _ h => by simp [h]))
def closB (H : Hp) (l : List Rf) : Bool := l.all fun r => (kids H r).all fun c => decide (c ∈ l)
set_option maxRecDepth 100000 in
set_option maxHeartbeats 2000000 in
theorem closed_ok (b t : Nat) (H : Hp) (v : Value) (l : List Rf) (w : World) (h : HpAt w b t H) (hv : Refs w v l) (hw : ∀ r ∈ l, r.Wf) (hn : l.length ≤ 4096) :
    Calls Tryz.prog 21 #[.pointer (some ⟨b, 0, none⟩), v] w fun e w' => e = .returned (.tuple #[.bool (thrE H l == 0 && closB H (l.filter (·.nz))), .int .i64 (thrE H l)]) ∧ Keeps (fun _ => False) w w' := by
  obtain ⟨p, c, rfl⟩ := hv.slice
  have HT := hid (fun W (hk : Keeps (fun _ => False) w W) => there_ok b t H _ l W (h.keeps hk (fun h => h) (fun h => h)) (hv.keeps hk (fun _ _ h => h)) hn)
  have HW := hid (fun W (hk : Keeps (fun _ => False) w W) => h.keeps hk (fun h => h) (fun h => h))
  obtain ⟨E, hE⟩ : ∃ E, thrE H l = E := ⟨_, rfl⟩
  have HTH := hid (fun (h : E = 0) => thrE_zero (H := H) (l := l) (hE.trans h))
  have HWF := hid hw
  obtain ⟨fl, hfl⟩ : ∃ fl, l.filter (·.nz) = fl := ⟨_, rfl⟩
  have hfn : fl.length ≤ 4096 := by rw [← hfl]; exact Nat.le_trans (List.length_filter_le _ _) hn
  rw [hfl] at HTH
  simp only [hE, hfl] at HT ⊢
  clear h hv hw hE hfl
  refine (callsIn_wide (n := 0)).1 ?_
  refine callsIn_of_wp_marks Tryz.func21 rfl trivial ?_ rfl
  simp only [Tryz.ntmps21, List.size_toArray, List.length_cons, List.length_nil, Nat.reduceAdd, Nat.reduceSub, Array.replicate_succ, Array.replicate_zero, List.push_toArray, List.append_toArray, List.nil_append, List.cons_append]
  obtain ⟨wa, hwa⟩ : ∃ wa, ((w.alloc (.cells #[.slice p l.length c] 28)).alloc (.cells #[.bool false] 4)).alloc (.cells #[.int .i64 0] 35) = wa := ⟨_, rfl⟩
  have ka : Keeps (fun _ => False) w wa := by rw [← hwa]; exact (((Keeps.refl _ _).alloc _).alloc _).alloc _
  have qa3 : wa.heap[w.heap.size]? = some (.cells #[.slice p l.length c] 28) := by rw [← hwa]; exact alloc_old (alloc_old alloc_new)
  have qa4 : wa.heap[w.heap.size + 1]? = some (.cells #[.bool false] 4) := by rw [← hwa]; exact alloc_old (alloc_new' (by simp))
  have qa5 : wa.heap[w.heap.size + 1 + 1]? = some (.cells #[.int .i64 0] 35) := by rw [← hwa]; exact alloc_new' (by simp)
  have HWA := hid hwa; have KA := hid ka; have Q3 := hid qa3; have Q4 := hid qa4; have Q5 := hid qa5
  have hl5 := lt_block qa5
  clear hwa ka qa3 qa4 qa5
  gi_wp2_with fail
  rw [HWA.out]
  refine ⟨trivial, rfl, callsIn_wide.2 ((HT.out _ KA.out).mono ?_)⟩
  rintro e w1 ⟨v1, rfl, hr1, hr2, k1⟩
  by_cases he : E = 0
  · subst he
    have hr := hr1 rfl
    obtain ⟨p1, c1, rfl⟩ := hr.refs.slice
    have K1 := hid (KA.out.trans k1)
    have Q31 := block_keep Q3.out k1 (fun h => h)
    obtain ⟨d0, df, dl⟩ := cells1 Q31
    obtain ⟨f0, ff, fl4⟩ := cells1 (block_keep Q4.out k1 (fun h => h))
    obtain ⟨g0, gf, gl5⟩ := cells1 (block_keep Q5.out k1 (fun h => h))
    gi_wp2_with fail
    obtain ⟨w2, hw2⟩ : ∃ w2, w1.setCell ⟨w.heap.size, 0, none⟩ (.slice p1 fl.length c1) = w2 := ⟨_, rfl⟩
    have k2 : Keeps (fun y => y = w.heap.size) w1 w2 := by rw [← hw2]; exact keeps_set1 _ _ _ _
    have q32 : w2.heap[w.heap.size]? = some (.cells #[.slice p1 fl.length c1] 28) := by rw [← hw2]; exact set_block Q31 0 _
    rw [hw2]
    have hsa : w.heap.size < wa.heap.size := by omega
    have HR2 := hid (hr.keeps k2 (fun y h1 _ _ h => by omega))
    have Q42 := hid (block_keep (block_keep Q4.out k1 (fun h => h)) k2 (by omega))
    have Q52 := hid (block_keep (block_keep Q5.out k1 (fun h => h)) k2 (by omega))
    have K2 := hid (show Keeps (fun y => w.heap.size ≤ y) w w2 from K1.out.up.trans' k2 (fun _ _ h => h) (fun y _ h => by omega))
    have Q32 := hid q32
    have HTH2 := hid (HTH.out trivial)
    have HW2 := hid (show HpAt w2 b t H from (HW.out _ (KA.out.trans k1)).keeps k2 (fun h => by have := (HW.out _ (Keeps.refl _ _)).lt; omega) (fun h => by have := (HW.out _ (Keeps.refl _ _)).tab.lt; omega))
    have ekid : ∀ args w, (callFunc 185 args).run Tryz.prog w = .ok (.enter 185 args) w := enters_of Tryz.func185 (by kernel_rfl) rfl
    have hb2 : w.heap.size + 2 < w2.heap.size := by have := lt_block Q52.out; omega
    clear hr hr1 hr2 k1 k2 q32 hw2 d0 df dl f0 ff fl4 g0 gf gl5 Q31 HT HTH HWA
    refine wpIn_loop (fun a wr => ∃ (u8 u9 u22 u23 u24 u25 u26 u27 u28 u29 u30 u31 u32 u33 : Value) (k : Nat) (ds : List Nat), a = { tmps := #[.pointer (some ⟨b, 0, none⟩), .slice p l.length c, undef, .pointer (some ⟨w.heap.size, 0, none⟩), .pointer (some ⟨w.heap.size + 1, 0, none⟩), .pointer (some ⟨w.heap.size + 1 + 1, 0, none⟩), .int .i64 0, undef, u8, u9,
        .tuple #[.slice p1 fl.length c1, .int .i64 0], .pointer (some ⟨b, 0, none⟩), .slice p l.length c, .tuple #[.slice p1 fl.length c1, .int .i64 0], .slice p1 fl.length c1, .int .i64 0, .int .i64 0, .bool false, undef, .slice p1 fl.length c1, .int .i64 fl.length, .int .i64 k, u22, u23, u24, u25, u26, u27, u28, u29, u30, u31, u32, u33], defers := ds.map fun D => { target := .collected D, args := #[] } } ∧
        (k ≤ fl.length ∧ ds.Nodup ∧ (∀ D ∈ ds, w2.heap.size ≤ D ∧ wr.heap[D]? = some (.deferred (some []))) ∧ Keeps (fun _ => False) w2 wr ∧ (∀ r ∈ fl.take k, ∀ c ∈ kids H r, c ∈ fl))) (fun a _ => fl.length - (intOf (a.tmps.getD 21 undef)).toNat) ?start ?round
    case start =>
      exact ⟨_, _, _, _, _, _, _, _, _, _, _, _, _, _, 0, [], rfl, Nat.zero_le _, List.nodup_nil, (fun D h => nomatch h), Keeps.refl _ _, (fun r h => by simp at h)⟩
    case round =>
      rintro a wr ⟨u8, u9, u22, u23, u24, u25, u26, u27, u28, u29, u30, u31, u32, u33, k, ds, rfl, hk, hnd, hds, hkr, hcl⟩
      have HND := hid hnd; have HDS := hid hds; have HKR := hid hkr; have HCL := hid hcl
      have hk0 : (0 : Int) ≤ k := by omega
      have hszr := hkr.size
      clear hnd hds hkr hcl
      by_cases hlt : k < fl.length
      · obtain ⟨x, hx⟩ : ∃ x, fl[k]? = some x := ⟨_, List.getElem?_eq_getElem hlt⟩
        have hrr := HR2.out.keeps HKR.out (fun _ _ _ _ h => h)
        obtain ⟨g, hpg, hgl, c0, c1'⟩ := hrr.refs.cell.2 k x hx
        subst hpg
        have hxt := HTH2.out x (List.mem_of_getElem? hx)
        obtain ⟨xi, xg, rfl⟩ : ∃ (xi : Nat) (xg : Int), x = ⟨xi, xg⟩ := by
          obtain ⟨j, e1, _⟩ := ckV_ok hxt
          exact ⟨j, x.g, by rw [← e1]⟩
        dsimp only at c0 c1'
        have hlt' : (k : Int) < (fl.length : Int) := by omega
        have HXT := hid hxt; have HX := hid hx
        have HCC := hid (fun W => rchildren_call b ⟨xi, xg⟩ W)
        clear hrr hxt hx
        gi_wp2_with fail
        refine ⟨trivial, rfl, callsIn_wide.2 ((HCC.out _).mono ?_)⟩
        rintro e w4 ⟨Bh, Br, rfl, k4, qh, qr, bh, br⟩
        have K4 := hid (show Keeps (fun _ => False) wr w4 from ((Keeps.refl _ _).alloc _).trans k4)
        have QH := hid qh; have QR := hid qr
        have hs4 := K4.out.size
        clear k4 qh qr c0 c1'
        gi_wp2_with fail
        have hk24 : Keeps (fun _ => False) w2 w4 := HKR.out.trans K4.out
        have Q34 := hid (block_keep Q32.out hk24 (fun h => h)); have Q44 := hid (block_keep Q42.out hk24 (fun h => h)); have Q54 := hid (block_keep Q52.out hk24 (fun h => h))
        have HR4 := hid (HR2.out.keeps hk24 (fun _ _ _ _ h => h))
        have hbt : b < w2.heap.size ∧ t < w2.heap.size := ⟨HW2.out.lt, HW2.out.tab.lt⟩
        have HPW := hid (fun W (hk : Keeps (fun y => w4.heap.size ≤ y) w4 W) => (HW2.out.keeps hk24 (fun h => h) (fun h => h)).keeps hk (by omega) (by omega))
        have K24 := hid hk24
        clear hk24
        refine wp_overM (gf := 185) (lb := #[.pointer (some ⟨Bh, 0, none⟩), .pointer (some ⟨Br, 0, none⟩)]) rfl ekid (rch_gives b t Bh Br H xi xg HXT.out) (fun _ => rfl)
          (fun M pre W => (∀ c ∈ pre, c ∈ fl) ∧ Keeps (fun y => w4.heap.size ≤ y) w4 W) (fun cd W => cd = .ret ∧ closB H fl = false ∧ (∃ W0, Keeps (fun y => w4.heap.size ≤ y) w4 W0 ∧ Keeps (fun y => y = w.heap.size + 1 ∨ y = w.heap.size + 2 ∨ w4.heap.size ≤ y) W0 W ∧ W.heap[w.heap.size + 1]? = some (.cells #[.bool false] 4) ∧ W.heap[w.heap.size + 1 + 1]? = some (.cells #[.int .i64 0] 35)))
          ?hI ?hIx ?hRd ?hRd0 ?h0 ?body ?done ?stop
        case hI =>
          rintro M pre W W' ⟨h1, h2⟩ hk
          exact ⟨h1, h2.trans' hk (fun _ _ h => h) (fun y _ h => by rcases h with h | h <;> omega)⟩
        case hIx =>
          rintro cd W W' ⟨rfl, hc, W0, h1, h2, h3, h4⟩ hk
          exact ⟨rfl, hc, W0, h1, h2.trans' hk (fun _ _ h => h) (fun y _ h => .inr (.inr (by rcases h with h | h <;> omega))), block_keep h3 hk (not_two (by omega)), block_keep h4 hk (not_two (by omega))⟩
        case hRd =>
          rintro M pre W ⟨_, h2⟩
          exact ⟨block_keep QH.out h2 (by omega), block_keep QR.out h2 (by omega), HPW.out W h2⟩
        case hRd0 =>
          intro W hk
          exact ⟨block_keep QH.out hk (fun h => h), block_keep QR.out hk (fun h => h), HPW.out W hk.up⟩
        case h0 => exact fun W hk _ => ⟨(fun c h => nomatch h), hk.up⟩
        case body =>
          rintro l' M pre x suf W hx ⟨h1, h2⟩ hsW
          have HXM := hid (show x ∈ kids H ⟨xi, xg⟩ by rw [hx]; simp)
          have H1 := hid h1; have H2 := hid h2
          clear h1 h2 hx
          simp only [encV, List.zip_toArray, List.zip_cons_cons, List.zip_nil_left]
          gi_wp2_with fail
          refine ⟨⟨(Keeps.refl _ _).alloc _, (Keeps.refl _ _).alloc _⟩, fun W2 hk2 => ?_⟩
          have hbk : Keeps (Two w4) W W2 := ((Keeps.refl _ _).alloc _).trans hk2
          have k42 : Keeps (fun y => w4.heap.size ≤ y) w4 W2 := H2.out.trans' hbk (fun _ _ h => h) (fun y _ h => by rcases h with h | h <;> omega)
          obtain ⟨x0, x1, _, xl⟩ := cells2 (block_keep (alloc_new (w := W)) hk2 (not_two' hsW))
          obtain ⟨d0, df, dl⟩ := cells1 (block_keep Q34.out k42 (by omega))
          obtain ⟨f0, ff, fl4⟩ := cells1 (block_keep Q44.out k42 (by omega))
          obtain ⟨g0, gf, gl5⟩ := cells1 (block_keep Q54.out k42 (by omega))
          have HCT := hid (rcontains _ fl x W2 (HR4.out.keeps k42 (fun y _ h2 _ h => by omega)).refs (by omega))
          have K42 := hid k42
          have hs42 := k42.size
          clear hbk k42 hk2
          gi_wp2_with fail
          refine ⟨trivial, rfl, CallsIn.inRound l' (callsIn_wide.2 (HCT.out.mono ?_))⟩
          rintro e W3 ⟨rfl, k3⟩
          by_cases hm : x ∈ fl
          · rw [decide_eq_true hm]
            have HMM := hid hm
            have K3 := hid k3
            clear hm k3
            gi_wp2_with fail
            refine ⟨⟨K3.out.up, K3.out.up⟩, fun c hc => ?_, K42.out.trans K3.out.up⟩
            rcases List.mem_append.1 hc with hc | hc
            · exact H1.out c hc
            · rw [List.mem_singleton.1 hc]; exact HMM.out
          · rw [decide_eq_false hm]
            have HNO := hid (show closB H fl = false from by
              unfold closB
              rw [List.all_eq_false]
              refine ⟨_, List.mem_of_getElem? HX.out, ?_⟩
              rw [Bool.not_eq_true, List.all_eq_false]
              exact ⟨x, HXM.out, by simpa using hm⟩)
            have K3 := hid k3
            have Q43 := hid (block_keep (block_keep Q44.out K42.out (by omega)) k3 (fun h => h))
            have Q53 := hid (block_keep (block_keep Q54.out K42.out (by omega)) k3 (fun h => h))
            obtain ⟨f0, ff, fl4⟩ := cells1 Q43.out
            obtain ⟨g0, gf, gl5⟩ := cells1 Q53.out
            clear hm k3
            gi_wp2_with fail
            obtain ⟨W5, hW5⟩ : ∃ W5, (W3.setCell ⟨w.heap.size + 1, 0, none⟩ (.bool false)).setCell ⟨w.heap.size + 1 + 1, 0, none⟩ (.int .i64 0) = W5 := ⟨_, rfl⟩
            have k5 : Keeps (fun y => y = w.heap.size + 1 ∨ y = w.heap.size + 2) W3 W5 := by
              rw [← hW5]
              exact Keeps.setCell (p := ⟨w.heap.size + 1 + 1, 0, none⟩) (Keeps.setCell (p := ⟨w.heap.size + 1, 0, none⟩) (Keeps.refl _ W3) (.inl (.inl rfl)) _) (.inl (.inr rfl)) _
            have q45 : W5.heap[w.heap.size + 1]? = some (.cells #[.bool false] 4) := by
              rw [← hW5]; exact set_oth (set_block Q43.out 0 _) (by simp)
            have q55 : W5.heap[w.heap.size + 1 + 1]? = some (.cells #[.int .i64 0] 35) := by
              rw [← hW5]; exact set_block (set_oth Q53.out (by simp)) 0 _
            rw [hW5]
            have k35 : Keeps (fun y => y = w.heap.size + 1 ∨ y = w.heap.size + 2) W2 W5 := K3.out.up.trans k5
            refine ⟨⟨k35.mono (fun y _ h h' => by rcases h' with h' | h' <;> omega), k35.mono (fun y _ h => .inl (by omega))⟩, rfl, HNO.out, W2, K42.out, k35.mono (fun y _ h => by omega), q45, q55⟩
        case done =>
          rintro M W ⟨h1, h2⟩ hD
          have H1 := hid h1; have H2 := hid h2; have HD := hid hD
          clear h1 h2 hD
          gi_wp2_with fail
          refine ⟨⟨_, _, _, _, _, _, _, _, _, _, _, _, _, _, k + 1, w4.heap.size :: ds, rfl, by omega, ?_, ?_, ?_, ?_⟩, ?_⟩
          · refine List.nodup_cons.2 ⟨fun h => ?_, HND.out⟩
            have := lt_block (HDS.out _ h).2
            omega
          · intro D hd
            rcases List.mem_cons.1 hd with rfl | hd
            · exact ⟨by omega, HD.out⟩
            · have h1 := HDS.out D hd
              have h2 := lt_block h1.2
              exact ⟨h1.1, block_keep (block_keep h1.2 K4.out (fun h => h)) H2.out (by omega)⟩
          · exact (K24.out.trans' H2.out (U := fun y => w4.heap.size ≤ y) (fun _ _ h => h.elim) (fun _ _ h => h)).mono (fun y hy h => by have := K24.out.size; omega)
          · intro r hr c' hc'
            rw [List.take_add_one, HX.out] at hr
            rcases List.mem_append.1 hr with hr | hr
            · exact HCL.out r hr c' hc'
            · simp at hr
              rw [hr] at hc'
              exact H1.out c' hc'
          · simp [intOf]; omega
        case stop =>
          rintro cd W ⟨rfl, hc, W0, h1, h2, h3, h4⟩ hD
          have H1 := hid h1; have H2 := hid h2; have H3 := hid h3; have H4 := hid h4; have HD := hid hD
          clear h1 h2 h3 h4 hD
          gi_wp2_with fail
          refine leave_marks (w4.heap.size :: ds) W (List.nodup_cons.2 ⟨fun h => by have := lt_block (HDS.out _ h).2; omega, HND.out⟩) (fun D hd => ?_) (fun W' hk' => ?_)
          · rcases List.mem_cons.1 hd with rfl | hd
            · exact HD.out
            · have h1 := HDS.out D hd
              have h2 := lt_block h1.2
              exact block_keep (block_keep (block_keep h1.2 K4.out (fun h => h)) H1.out (by omega)) H2.out (by omega)
          · have hnm : ∀ y, y < w2.heap.size → ¬ y ∈ w4.heap.size :: ds := fun y hy h => by
              rcases List.mem_cons.1 h with h | h
              · omega
              · have := (HDS.out y h).1; omega
            obtain ⟨f0, _, _⟩ := cells1 (block_keep H3.out hk' (hnm _ (by omega)))
            obtain ⟨g0, _, _⟩ := cells1 (block_keep H4.out hk' (hnm _ (by omega)))
            refine ⟨.tuple #[.bool false, .int .i64 0], by simp [results, Tryz.results21, go_sem, f0, g0], by rw [hc]; rfl, ?_⟩
            have q1 : Keeps (fun y => w.heap.size ≤ y) w w4 := K2.out.trans' K24.out (fun _ _ h => h) (fun _ _ h => h.elim)
            have q2 : Keeps (fun y => w.heap.size ≤ y) w W0 := q1.trans' H1.out (fun _ _ h => h) (fun y _ h => by omega)
            have q3 : Keeps (fun y => w.heap.size ≤ y) w W := q2.trans' H2.out (fun _ _ h => h) (fun y _ h => by omega)
            exact (q3.trans' hk' (fun _ _ h => h) (fun y _ h => by rcases List.mem_cons.1 h with h | h; omega; have := (HDS.out y h).1; omega)).fresh
      · have hlt' : ¬ (k : Int) < (fl.length : Int) := by omega
        obtain ⟨f0, ff, fl4⟩ := cells1 (block_keep Q42.out HKR.out (fun h => h))
        obtain ⟨g0, gf, gl5⟩ := cells1 (block_keep Q52.out HKR.out (fun h => h))
        gi_wp2_with fail
        obtain ⟨W5, hW5⟩ : ∃ W5, (wr.setCell ⟨w.heap.size + 1, 0, none⟩ (.bool true)).setCell ⟨w.heap.size + 1 + 1, 0, none⟩ (.int .i64 0) = W5 := ⟨_, rfl⟩
        have k5 : Keeps (fun y => y = w.heap.size + 1 ∨ y = w.heap.size + 2) wr W5 := by
          rw [← hW5]
          exact Keeps.setCell (p := ⟨w.heap.size + 1 + 1, 0, none⟩) (Keeps.setCell (p := ⟨w.heap.size + 1, 0, none⟩) (Keeps.refl _ wr) (.inl (.inl rfl)) _) (.inl (.inr rfl)) _
        have q45 : W5.heap[w.heap.size + 1]? = some (.cells #[.bool true] 4) := by
          rw [← hW5]; exact set_oth (set_block (block_keep Q42.out HKR.out (fun h => h)) 0 _) (by simp)
        have q55 : W5.heap[w.heap.size + 1 + 1]? = some (.cells #[.int .i64 0] 35) := by
          rw [← hW5]; exact set_block (set_oth (block_keep Q52.out HKR.out (fun h => h)) (by simp)) 0 _
        have hc : closB H fl = true := by
          unfold closB
          rw [List.all_eq_true]
          intro r hr
          rw [List.all_eq_true]
          intro c' hc'
          have := HCL.out r (by rw [List.take_of_length_le (by omega)]; exact hr) c' hc'
          simpa using this
        rw [hW5]
        have hnm : ∀ y, y < w2.heap.size → ¬ y ∈ ds := fun y hy h => by have := (HDS.out y h).1; omega
        refine leave_marks ds W5 HND.out (fun D hd => block_keep (HDS.out D hd).2 k5 (by have := (HDS.out D hd).1; omega)) (fun W' hk' => ?_)
        obtain ⟨f0, _, _⟩ := cells1 (block_keep q45 hk' (hnm _ (by omega)))
        obtain ⟨g0, _, _⟩ := cells1 (block_keep q55 hk' (hnm _ (by omega)))
        refine ⟨.tuple #[.bool true, .int .i64 0], by simp [results, Tryz.results21, go_sem, f0, g0], by rw [hc], ?_⟩
        have q1 : Keeps (fun y => w.heap.size ≤ y) w wr := K2.out.trans' HKR.out (fun _ _ h => h) (fun _ _ h => h.elim)
        have q2 : Keeps (fun y => w.heap.size ≤ y) w W5 := q1.trans' k5 (fun _ _ h => h) (fun y _ h => by omega)
        exact (q2.trans' hk' (fun _ _ h => h) (fun y _ h => by have := (HDS.out y h).1; omega)).fresh
  · have hne : (E == 0) = false := by simpa using he
    have hv1 := hr2 he
    subst hv1
    have K1 := hid (KA.out.trans k1)
    obtain ⟨d0, df, dl⟩ := cells1 (block_keep Q3.out k1 (fun h => h))
    have Q41 := hid (block_keep Q4.out k1 (fun h => h)); have Q51 := hid (block_keep Q5.out k1 (fun h => h))
    obtain ⟨f0, ff, fl4⟩ := cells1 Q41.out
    obtain ⟨g0, gf, gl5⟩ := cells1 Q51.out
    have hwl1 := K1.out.size
    clear hr1 hr2 k1
    gi_wp2_with fail
    obtain ⟨W5, hW5⟩ : ∃ W5, ((w1.setCell ⟨w.heap.size, 0, none⟩ (.slice none 0 0)).setCell ⟨w.heap.size + 1, 0, none⟩ (.bool false)).setCell ⟨w.heap.size + 1 + 1, 0, none⟩ (.int .i64 E) = W5 := ⟨_, rfl⟩
    have k5 : Keeps (fun y => y = w.heap.size ∨ y = w.heap.size + 1 ∨ y = w.heap.size + 2) w1 W5 := by
      rw [← hW5]
      exact Keeps.setCell (p := ⟨w.heap.size + 1 + 1, 0, none⟩) (Keeps.setCell (p := ⟨w.heap.size + 1, 0, none⟩) (Keeps.setCell (p := ⟨w.heap.size, 0, none⟩) (Keeps.refl _ w1) (.inl (.inl rfl)) _) (.inl (.inr (.inl rfl))) _) (.inl (.inr (.inr rfl))) _
    have q45 : W5.heap[w.heap.size + 1]? = some (.cells #[.bool false] 4) := by
      rw [← hW5]; exact set_oth (set_block (set_oth Q41.out (by simp)) 0 _) (by simp)
    have q55 : W5.heap[w.heap.size + 1 + 1]? = some (.cells #[.int .i64 E] 35) := by
      rw [← hW5]; exact set_block (set_oth (set_oth Q51.out (by simp <;> omega)) (by simp <;> omega)) 0 _
    rw [hW5]
    refine leave_marks [] W5 List.nodup_nil (fun D hd => nomatch hd) (fun W' hk' => ?_)
    obtain ⟨f0, _, _⟩ := cells1 (block_keep q45 hk' (fun h => nomatch h))
    obtain ⟨g0, _, _⟩ := cells1 (block_keep q55 hk' (fun h => nomatch h))
    refine ⟨.tuple #[.bool false, .int .i64 E], by simp [results, Tryz.results21, go_sem, f0, g0], by rw [hne]; rfl, ?_⟩
    have q2 : Keeps (fun y => w.heap.size ≤ y) w W5 := K1.out.up.trans' k5 (fun _ _ h => h) (fun y _ h => by omega)
    exact (q2.trans' hk' (fun _ _ h => h) (fun y _ h => nomatch h)).fresh
end Go.Proofs.YtehmoikbeflkaaaGreat
