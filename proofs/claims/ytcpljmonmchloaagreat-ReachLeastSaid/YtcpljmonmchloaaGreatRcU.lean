/- Plain laws of ways: depths; estraylaw19: ReachShort. -/
import Derived.Test.YtcpljmonmchloaaGreatRcQ
import Derived.Test.YtcpljmonmchloaaGreatRcP
namespace Go.Proofs.YtcpljmonmchloaaGreat
set_option linter.unusedVariables false
set_option linter.unusedSimpArgs false

def Ar.dep (A : Ar) (r : Rf) : Nat := (A.wayL r).length - 1
theorem way_u {A : Ar} {r : Rf} (hr : r ∈ A.rq.keys) : ∃ u, Wy A.rq r u ∧ A.wayL r = u.reverse := by
  obtain ⟨u, hu⟩ := Wy.of_key (rq_exp A) hr
  exact ⟨u, hu, wayQ_of (rq_exp A) hr hu⟩
theorem dep_dp {A : Ar} {r : Rf} (hr : r ∈ A.rq.keys) : Dp A.rq r (A.dep r) ∧ (A.wayL r).length = A.dep r + 1 := by
  obtain ⟨u, hu, he⟩ := way_u hr
  have h0 : u.length ≠ 0 := fun h => hu.ne (List.length_eq_zero_iff.1 h)
  have hl : (A.wayL r).length = u.length := by rw [he, List.length_reverse]
  unfold Ar.dep
  rw [hl]
  exact ⟨⟨u, hu, by omega⟩, by omega⟩
theorem dep_of {A : Ar} {r : Rf} (hr : r ∈ A.rq.keys) {d : Nat} (h : Dp A.rq r d) : A.dep r = d := (dep_dp hr).1.unique (rq_nd A) h
theorem dep_zero {A : Ar} {r : Rf} (hr : r ∈ A.rq.keys) : A.dep r = 0 ↔ r ∈ A.glL ++ A.stks A.many := by
  have h := explQ_zero (H := A.H) (l := A.orig) (dep_dp hr).1
  rw [h]
  exact ⟨fun h => (mem_hres.1 h).1, fun h => mem_hres.2 ⟨h, rq_there hr⟩⟩
theorem key_kid {A : Ar} {r c : Rf} (hr : r ∈ A.rq.keys) (hc : c ∈ kids A.H r) : c ∈ A.rq.keys :=
  (explQ_mem orig_there).2 (.step ((explQ_mem orig_there).1 hr) hc)
theorem dep_kid {A : Ar} {r c : Rf} (hr : r ∈ A.rq.keys) (hc : c ∈ kids A.H r) : A.dep c ≤ A.dep r + 1 := by
  obtain ⟨d, h1, h2⟩ := explQ_kid orig_there (dep_dp hr).1 hr hc
  rw [dep_of (key_kid hr hc) h2]
  exact h1
theorem dep_way {A : Ar} {r : Rf} (hr : r ∈ A.rq.keys) {k : Nat} {o : Rf} (h : (A.wayL r)[k]? = some o) : o ∈ A.rq.keys ∧ A.dep o = k := by
  obtain ⟨u, hu, he⟩ := way_u hr
  rw [he] at h
  have hk : k < u.length := by have := (List.getElem?_eq_some_iff.1 h).1; rwa [List.length_reverse] at this
  rw [List.getElem?_reverse hk] at h
  have hm : o ∈ A.rq.keys := hu.len (rq_nd A) o (List.mem_of_getElem? h)
  refine ⟨hm, dep_of hm ⟨_, hu.drop _ _ h, ?_⟩⟩
  rw [List.length_drop]
  omega
theorem dep_lt (A : Ar) (r : Rf) : A.dep r ≤ A.H.T.n := by have := wayQ_len (A := A) (r := r); unfold Ar.dep; omega
theorem field_kid {A : Ar} (nd : Nd A) {r c : Rf} (hr : r ∈ A.rq.keys) (hc : c ∈ ((A.H.ob r.s.toNat).upto 4).map (·.2)) : c ∈ kids A.H r := by
  obtain ⟨⟨k, q⟩, hq, rfl⟩ := List.mem_map.1 hc
  obtain ⟨e1, e2, e3⟩ := Ob.upto_mem hq
  have ht := rq_there hr
  obtain ⟨_, _, t3, t4, _⟩ := ht.lt
  have he : Edge A.H r.s.toNat q := ⟨t3, t4, e2, k, e3, e1⟩
  exact mem_kids.2 ⟨ht, he, nd _ (.field ((rq_iff nd).1 hr) ht he)⟩
def depM (A : Ar) (l : List Rf) : List (Rf × Go.Value) := l.map fun r => (r, .int .i64 (A.dep r))
theorem depM_snoc (A : Ar) (l : List Rf) (r : Rf) : depM A (l ++ [r]) = depM A l ++ [(r, .int .i64 (A.dep r))] := by simp [depM]
end Go.Proofs.YtcpljmonmchloaaGreat

namespace Go.Proofs.YtcpljmonmchloaaGreat
open Go.RowKit Go.ChangeShapes Go.WideShapes Go.ChangeAt Go.Deep
set_option linter.unusedVariables false
set_option linter.unusedSimpArgs false

theorem Ay.aside {N : Nat} {w0 w w' : World} {a : Nat} {L : ArL} {A : Ar} {S : Nat → Prop} (h : Ay N w0 w a L A) (hk : Keeps S w w') (hS : ∀ y, S y → N ≤ y) (hf : ∀ y, S y → ¬ L.foot A.many y) (ha : ¬ S a) (ho : ¬ S L.o) : Ay N w0 w' a L A :=
  ⟨h.ar.keeps hk ha ho (fun hs => hf _ hs (.inl rfl)) (fun hs => hf _ hs (.inr (.inl rfl))) (fun hs => hf _ hs (.inr (.inr (.inl rfl)))) (fun m hm hs => hf _ hs (.inr (.inr (.inr ⟨m, hm, rfl⟩)))), h.ok, h.lo, h.k.trans' hk (fun _ _ h => h) (fun y _ hy => hS y hy)⟩
theorem Refs.own_lt {w : World} {v : Value} {l : List Rf} (h : Refs w v l) : ∀ k, v.ownBlock = some k → k < w.heap.size := by
  rcases h with ⟨rfl, _⟩ | ⟨g, cap, cur, rfl, h2, _⟩
  · intro k hk; cases hk
  · intro k hk
    obtain rfl : g = k := Option.some.inj hk
    exact lt_block h2
theorem hobject_th (b t : Nat) (H : Hp) (r : Rf) (w : World) (h : HpAt w b t H) (hr : There H r) :
    Calls Tryz.prog 29 #[.pointer (some ⟨b, 0, none⟩), .agg #[.int .i64 r.s, .int .u32 r.g]] w fun e w' => e = .returned (.tuple #[.agg (H.ob r.s.toNat).arr, .int .i64 0]) ∧ Keeps (fun _ => False) w w' := by
  obtain ⟨i, e1, e2, e3, e4⟩ := ckV_ok hr
  have hc : ckV H.T (i : Int) r.g = 0 := by rw [← e1]; exact hr
  rw [e1, Int.toNat_natCast]
  exact hobject_ok b t H i r.g w h hc
set_option maxRecDepth 100000 in
theorem zero_int (w : World) : (zeroValue 3).run Tryz.prog w = .ok (.int .i64 0) w := by kernel_rfl
set_option maxRecDepth 100000 in
theorem depM_look {w : World} {b : Nat} {A : Ar} {l : List Rf} (h : VMap w b (depM A l)) {r : Rf} (hr : r.Nm) (hm : r ∈ l) (c : Bool) :
    Sem.run Tryz.prog (Instr.lookup 59 (.map (some b)) (.agg #[.int .i64 r.s, .int .u32 r.g]) c) w = .ok (if c then .tuple #[.int .i64 (A.dep r), .bool true] else .int .i64 (A.dep r)) w := by
  rcases h.look (t := 59) Tryz.underlying59 (zero_int w) hr c with ⟨h1, _⟩ | ⟨v, h1, h2⟩
  · exact absurd rfl (h1 (r, .int .i64 (A.dep r)) (List.mem_map.2 ⟨r, hm, rfl⟩))
  · obtain ⟨y, hy, e⟩ := List.mem_map.1 h1
    injection e with e1 e2
    subst e1
    rw [← e2] at h2
    exact h2
theorem depth_dep {N : Nat} {w0 : World} {a : Nat} {L : ArL} {A : Ar} (r : Rf) (w : World) (h : Ay N w0 w a L A) (hr : r ∈ A.rq.keys) :
    Calls Tryz.prog 23 #[.pointer (some ⟨a, 0, none⟩), .agg #[.int .i64 r.s, .int .u32 r.g]] w fun e w' => e = .returned (.tuple #[.int .i64 (A.dep r), .bool true, .int .i64 0]) ∧ Keeps (fun _ => False) w w' := by
  have := depth_ok a L A r w h.ar h.ok (there_wf h.ok (rq_there hr))
  rw [decide_eq_true hr, show ckV A.H.T r.s r.g = 0 from rq_there hr] at this
  exact this
theorem path_dep {N : Nat} {w0 : World} {a : Nat} {L : ArL} {A : Ar} (r : Rf) (w : World) (h : Ay N w0 w a L A) (hr : r ∈ A.rq.keys) :
    Calls Tryz.prog 22 #[.pointer (some ⟨a, 0, none⟩), .agg #[.int .i64 r.s, .int .u32 r.g]] w fun e w' => ∃ v, e = .returned (.tuple #[v, .bool true, .int .i64 0]) ∧ Row w' w.heap.size v (A.wayL r) ∧ Keeps (fun _ => False) w w' := by
  have := path_ok a L A r w h.ar h.ok (there_wf h.ok (rq_there hr))
  rw [decide_eq_true hr, show ckV A.H.T r.s r.g = 0 from rq_there hr] at this
  exact this
set_option maxRecDepth 100000 in
set_option maxHeartbeats 4000000 in
theorem reachShort_walk (v1 : Value) (l : List Mv) (w : World) (h1 : MvRow w v1 l) :
    Calls Tryz.prog 4 #[v1] w fun e w' => e = .returned (.bool true) ∧ Keeps (fun _ => False) w w' := by
  have HPL := hid (played19 v1 l w h1)
  have hg := good19 l
  obtain ⟨A, hA⟩ : ∃ A, (Sys.pl19 l).A = A := ⟨_, rfl⟩
  have hnd := hg.nd
  have hok := hg.ok.a
  have hm2 := hg.many
  rw [hA] at HPL hnd hok hm2
  have hbn := hok.n2
  have HM2 := hid hm2; have HND := hid hnd
  have HK := hid (fun r => mem_srt (l := A.rq.keys) (r := r))
  have hdn : (srt A.rq.keys).Nodup := (srt_perm _).nodup_iff.2 (rq_nd A)
  have hdl : (srt A.rq.keys).length ≤ 256 := by rw [(srt_perm _).length_eq]; exact Nat.le_trans (rq_len A) hbn
  obtain ⟨D, hD⟩ : ∃ D, srt A.rq.keys = D := ⟨_, rfl⟩
  rw [hD] at HK hdn hdl
  have HD := hid hD; have HDN := hid hdn
  have HNM := hid (fun r (hr : r ∈ A.rq.keys) => show r.Nm from (rq_there hr).nm hbn (there_wf hok (rq_there hr)))
  clear hD hA hg hnd hok hdn h1
  go_enter Tryz.func4, Tryz.ntmps4
  go_wp2_with fail
  refine HPL.out.mono ?_
  rintro e w1 ⟨a, L, rfl, h1⟩
  have H1 := hid h1
  clear h1 HPL
  go_wp2_with fail
  refine (aheap_ok a L A w1 H1.out.ar).mono ?_
  rintro e w2 ⟨bh, th, rfl, k2, _, _, hh2⟩
  have H2 := hid (H1.out.quiet k2); have HH2 := hid hh2
  clear k2 hh2 H1
  go_wp2_with fail
  refine (all_ok a L A w2 H2.out.ar H2.out.ok).mono ?_
  rintro e w3 ⟨v3, rfl, hr3, k3⟩
  rw [HD.out] at hr3
  obtain ⟨p3, c3, rfl⟩ := hr3.refs.slice
  have H3 := hid (H2.out.quiet k3); have HH3 := hid (HH2.out.keeps k3 (fun h => h) (fun h => h)); have RD3 := hid hr3.refs
  clear hr3 k3 H2 HH2
  have hmm : Sem.run Tryz.prog (Instr.makeMap 59 none) w3 = .ok (.map (some w3.heap.size)) (w3.alloc (.map #[] 0)) := run_makeMap _ _
  go_wp2_with fail
  obtain ⟨bm, hbm⟩ : ∃ bm, w3.heap.size = bm := ⟨_, rfl⟩
  obtain ⟨w4, hw4⟩ : ∃ w4, w3.alloc (.map #[] 0) = w4 := ⟨_, rfl⟩
  have k4 : Keeps (fun _ => False) w3 w4 := by rw [← hw4]; exact (Keeps.refl _ _).alloc _
  have m4 : VMap w4 bm [] := by rw [← hw4, ← hbm]; exact VMap.made w3
  have hbl : bm < w4.heap.size := m4.lt
  have hbw : w.heap.size ≤ bm := by rw [← hbm]; exact H3.out.k.size
  have HBF := hid (show ∀ y, y = bm → ¬ L.foot A.many y from fun y hy hf => by have := H3.out.footlt y hf; omega)
  have HBA := hid (show a ≠ bm ∧ L.o ≠ bm from ⟨by have := lt_block H3.out.ar.own.choose_spec.1; omega, by have := lt_block H3.out.ar.obj; omega⟩)
  have HBH := hid (show bh ≠ bm ∧ th ≠ bm from ⟨by have := HH3.out.lt; omega, by have := HH3.out.tab.lt; omega⟩)
  have hnm : ∀ k, (Value.slice p3 D.length c3).ownBlock = some k → k ≠ bm := fun k hk he => by
    have := RD3.out.own_lt k hk
    omega
  have HNB := hid hnm
  have H4 := hid (H3.out.quiet k4); have HH4 := hid (HH3.out.keeps k4 (fun h => h) (fun h => h)); have RD4 := hid (RD3.out.keeps k4 (fun _ _ h => h)); have M4 := hid (show VMap w4 bm (depM A (D.take 0)) from m4)
  rw [hw4]
  try rw [hbm]
  clear hnm hbm hw4 k4 m4 H3 HH3 RD3
  go_loopw [41] (fun ix wr => ∃ j : Nat, j ≤ D.length ∧ ix = .int .i64 j ∧ Hid (Keeps (fun y => y = bm) w4 wr) ∧ Hid (VMap wr bm (depM A (D.take j)))) (fun ix _ => D.length - (intOf ix).toNat)
  case atStart => exact ⟨0, by omega, rfl, hid (Keeps.refl _ _), M4⟩
  case round =>
    clear M4
    obtain ⟨j, hj, rfl, HKR, HMR⟩ := hrel
    have hj0 : (0 : Int) ≤ j := by omega
    have HAr := hid (H4.out.aside HKR.out (fun y hy => by omega) HBF.out (fun h => HBA.out.1 h) (fun h => HBA.out.2 h))
    have HHr := hid (HH4.out.keeps HKR.out (fun h => HBH.out.1 h) (fun h => HBH.out.2 h))
    have RDr := hid (RD4.out.keeps HKR.out (fun k hk h => HNB.out k hk h))
    have hbr := HMR.out.lt
    by_cases hlt : j < D.length
    · obtain ⟨r, hr⟩ : ∃ r, D[j]? = some r := ⟨_, List.getElem?_eq_getElem hlt⟩
      have hlt' : (j : Int) < (D.length : Int) := by omega
      have hrk : r ∈ A.rq.keys := (HK.out r).1 (List.mem_of_getElem? hr)
      obtain ⟨g, rfl, d0, d1⟩ := RDr.out.cellk hr
      have hno : ∀ x ∈ depM A (D.take j), x.1 ≠ r := fun x hx e => by
        obtain ⟨y, hy, rfl⟩ := List.mem_map.1 hx
        dsimp only at e
        subst e
        obtain ⟨i, hi, he⟩ := List.getElem_of_mem hy
        have hij : i < j := by simp at hi; omega
        have : D[i]? = D[j]? := by rw [hr, ← he, List.getElem_take, List.getElem?_eq_getElem]
        have := (List.getElem?_inj (show i < _ by omega) HDN.out).1 this
        omega
      have HNO := hid hno
      have htk : depM A (D.take (j + 1)) = depM A (D.take j) ++ [(r, .int .i64 (A.dep r))] := by rw [List.take_add_one, hr]; exact depM_snoc _ _ _
      have HTK := hid htk
      have hdz : A.dep r = 0 ↔ r ∈ A.glL ++ A.stks A.many := dep_zero hrk
      obtain ⟨d, hd⟩ : ∃ d, A.dep r = d := ⟨_, rfl⟩
      have hdn : d ≤ 256 := by rw [← hd]; exact Nat.le_trans (dep_lt A r) hbn
      have HDP := hid (fun W (h : Ay w.heap.size w W a L A) => depth_dep r W h hrk)
      rw [hd] at hdz HDP HTK
      obtain ⟨zz, hzz⟩ : ∃ zz, decide (r ∈ A.glL ++ A.stks A.many) = zz := ⟨_, rfl⟩
      have hz1 : decide ((d : Int) = 0) = zz := by rw [← hzz]; exact decide_eq_decide.2 (by rw [← hdz]; omega)
      have hz2 : ((d : Int) == 0) = zz := by rw [← hz1]; rfl
      have hd0 : ¬ (d : Int) < 0 := by omega
      have HZZ := hid hzz; have HR := hid (HNM.out r hrk)
      obtain ⟨Y, hY⟩ : ∃ Y, wr.heap.size = Y := ⟨_, rfl⟩
      obtain ⟨we, hwe⟩ : ∃ we, wr.alloc (.cells #[.int .i64 r.s, .int .u32 r.g] 24) = we := ⟨_, rfl⟩
      have ke : Keeps (fun _ => False) wr we := by rw [← hwe]; exact (Keeps.refl _ _).alloc _
      have qe : we.heap[Y]? = some (.cells #[.int .i64 r.s, .int .u32 r.g] 24) := by rw [← hwe, ← hY]; exact alloc_new
      have HAe := hid (HAr.out.quiet ke); have HME := hid (HMR.out.keeps ke (fun h => h)); have HQE := hid qe
      have hYb : Y ≠ bm := by omega
      have HWE := hid hwe; have HYY := hid hY; have HKE := hid (HKR.out.trans (ke.mono (fun _ _ h => h.elim)))
      clear hno htk hdz hd hzz hrk hr ke qe hwe hY HAr HHr RDr HKR HMR
      go_wp2_with fail
      rw [HWE.out]
      refine (HDP.out _ HAe.out).mono ?_
      rintro e wf ⟨rfl, kf⟩
      have HAf := hid (HAe.out.quiet kf); have HMf := hid (HME.out.keeps kf (fun h => h)); have HQf := hid (block_keep HQE.out kf (fun h => h)); have HKf := hid (HKE.out.trans (kf.mono (fun _ _ h => h.elim)))
      clear kf HAe HME HQE HKE d0 d1
      try rw [HYY.out]
      have HPS := hid (fun W (hk : Keeps (fun _ => False) wf W) => And.intro (cells2 (block_keep HQf.out hk (fun h => h))).1 (cells2 (block_keep HQf.out hk (fun h => h))).2.1)
      go_upto_region 13 with (fail)
      go_cut [70] (fun s70 wx => s70 = .bool false ∧ Hid (Keeps (fun _ => False) wf wx))
      case first =>
        go_region_held3 (fun W => W.cell? ⟨Y, 0, none⟩ = some (.int .i64 r.s) ∧ W.cell? ⟨Y, 1, none⟩ = some (.int .u32 r.g))
          ((refine HPS.out _ ?_; (repeat (first | with_reducible exact Keeps.refl _ _ | with_reducible refine Keeps.drewN ?_ _ | with_reducible refine Keeps.drew ?_ | with_reducible refine Keeps.alloc ?_ _ | with_reducible refine Keeps.trans ?_ kh | with_reducible refine Keeps.trans ?_ kk))))
          (first
            | (go_at_call 28; refine (origins19 a L A _ (HAf.out.quiet (by (repeat (first | with_reducible exact Keeps.refl _ _ | with_reducible refine Keeps.drewN ?_ _ | with_reducible refine Keeps.drew ?_ | with_reducible refine Keeps.alloc ?_ _)))) HM2.out).mono ?_; rintro e wh ⟨vo, rfl, hro, hol, kh⟩)
            | (go_at_call 27; refine (rcontains vo _ r _ (hro.refs.keeps (S := fun _ => False) (by (repeat (first | with_reducible exact Keeps.refl _ _ | with_reducible refine Keeps.drewN ?_ _ | with_reducible refine Keeps.drew ?_ | with_reducible refine Keeps.alloc ?_ _))) (fun _ _ h => h)) (by omega)).mono ?_; rw [HZZ.out]; rintro e wk ⟨rfl, kk⟩))
        all_goals
          go_wp2_with fail
          go_meet
          exact ⟨rfl, hid (by (repeat (first | with_reducible exact Keeps.refl _ _ | with_reducible refine Keeps.drewN ?_ _ | with_reducible refine Keeps.drew ?_ | with_reducible refine Keeps.alloc ?_ _ | with_reducible refine Keeps.trans ?_ kh | with_reducible refine Keeps.trans ?_ kk)))⟩
      case rest =>
      obtain ⟨rfl, HKc⟩ := hcut
      obtain ⟨wv, hwv⟩ : ∃ wv, wc = wv := ⟨_, rfl⟩
      rw [hwv] at HKc ⊢
      clear hwv
      obtain ⟨wd, hset, hmc, kd⟩ := (HMf.out.keeps HKc.out (fun h => h)).set (t := 59) Tryz.underlying59 HR.out HNO.out (.int .i64 d)
      have hset' : Sem.run Tryz.prog (Instr.mapUpdate 59 (.map (some bm)) (.agg #[.int .i64 r.s, .int .u32 r.g]) (.int .i64 d)) wv = .ok () wd := hset
      rw [← HTK.out] at hmc
      obtain ⟨y0, y1, _, yl⟩ := cells2 (block_keep HQf.out HKc.out (fun h => h))
      have HMd := hid hmc; have HKd := hid ((HKf.out.trans (HKc.out.mono (fun _ _ h => h.elim))).trans kd)
      clear hset hmc kd HAf HMf HQf HKf HKc HPS HNO HTK
      go_wp2_with fail
      exact ⟨⟨j + 1, by omega, by go_num, HKd, HMd⟩, by simp [intOf]; omega⟩
    · have hlt' : ¬ (j : Int) < (D.length : Int) := by omega
      rw [List.take_of_length_le (by omega)] at HMR
      obtain ⟨w5, rfl⟩ : ∃ w5 : World, w5 = wr := ⟨_, rfl⟩
      have HVV := hid (fun W (hk : Keeps (fun _ => False) w5 W) r (hr : r ∈ A.rq.keys) c => depM_look (HMR.out.keeps hk (fun h => h)) (HNM.out r hr) ((HK.out r).2 hr) c)
      clear hlt hj hj0 HKR H4 HH4 RD4 HMR HBF HBA HBH HNB
      go_wp2_with fail
      clear hlt'
      go_loopw [77] (fun ix wr => ∃ j : Nat, j ≤ D.length ∧ ix = .int .i64 j ∧ Hid (Keeps (fun _ => False) w5 wr)) (fun ix _ => D.length - (intOf ix).toNat)
      case atStart => exact ⟨0, by omega, rfl, hid (Keeps.refl _ _)⟩
      case round =>
        obtain ⟨j, hj, rfl, HKR⟩ := hrel
        have hj0 : (0 : Int) ≤ j := by omega
        by_cases hlt : j < D.length
        · obtain ⟨r, hr⟩ : ∃ r, D[j]? = some r := ⟨_, List.getElem?_eq_getElem hlt⟩
          have hlt' : (j : Int) < (D.length : Int) := by omega
          have hrk : r ∈ A.rq.keys := (HK.out r).1 (List.mem_of_getElem? hr)
          obtain ⟨g, rfl, d0, d1⟩ := (RDr.out.keeps HKR.out (fun _ _ h => h)).cellk hr
          have ke : Keeps (fun _ => False) w5 (wr.alloc (.cells #[.int .i64 r.s, .int .u32 r.g] 24)) := HKR.out.alloc _
          have HOB := hid (hobject_th bh th A.H r _ (HHr.out.keeps ke (fun h => h) (fun h => h)) (rq_there hrk))
          have HFK := hid (fun c (hc : c ∈ ((A.H.ob r.s.toNat).upto 4).map (·.2)) => And.intro (key_kid hrk (field_kid HND.out hrk hc)) (dep_kid hrk (field_kid HND.out hrk hc)))
          have HFR := hid (fun W => frefs_any (A.H.ob r.s.toNat) W)
          obtain ⟨o, ho⟩ : ∃ o, A.H.ob r.s.toNat = o := ⟨_, rfl⟩
          rw [ho] at HOB HFK HFR
          simp only [Ob.arr] at HOB HFR
          have hfl : ((o.upto 4).map (·.2)).length ≤ 4 := by rw [List.length_map]; exact Ob.upto_len o 4
          obtain ⟨fl, hfl2⟩ : ∃ fl, (o.upto 4).map (·.2) = fl := ⟨_, rfl⟩
          rw [hfl2] at hfl HFK
          have HFL := hid hfl2
          obtain ⟨Y, hY⟩ : ∃ Y, wr.heap.size = Y := ⟨_, rfl⟩
          obtain ⟨we, hwe⟩ : ∃ we, wr.alloc (.cells #[.int .i64 r.s, .int .u32 r.g] 24) = we := ⟨_, rfl⟩
          have qe : we.heap[Y]? = some (.cells #[.int .i64 r.s, .int .u32 r.g] 24) := by rw [← hwe, ← hY]; exact alloc_new
          rw [hwe] at ke HOB
          have HKE := hid ke; have HQE := hid qe; have HWE := hid hwe; have HYY := hid hY; have HRK := hid hrk
          clear hr ke qe hwe hY ho hfl2 hrk
          go_wp2_with fail
          try rw [HWE.out]
          refine HOB.out.mono ?_
          rintro e wf ⟨rfl, kf⟩
          have HKf := hid (HKE.out.trans kf); have HQf := hid (block_keep HQE.out kf (fun h => h))
          clear kf HKE HQE HOB d0 d1
          try rw [HYY.out]
          go_wp2_with fail
          refine (HFR.out _).mono ?_
          rw [HFL.out]
          rintro e wg ⟨vg, rfl, hrg, kg⟩
          obtain ⟨pg, cg, rfl⟩ := hrg.refs.slice
          have HKg := hid ((HKf.out.alloc _).trans kg); have HQg := hid (block_keep (alloc_old HQf.out) kg (fun h => h)); have RFg := hid hrg.refs
          clear hrg kg HKf HQf HFR
          go_wp2_with fail
          have HAg := hid (HAr.out.quiet HKg.out)
          have HPD := hid (fun W (h : Ay w.heap.size w W a L A) => path_dep r W h HRK.out)
          have HDW := hid (fun (k : Nat) (o : Rf) (h : (A.wayL r)[k]? = some o) => dep_way HRK.out h)
          have hwl := wayQ_len (A := A) (r := r)
          obtain ⟨dr, hdr⟩ : ∃ dr, A.dep r = dr := ⟨_, rfl⟩
          have HDR := hid hdr
          have hdr2 : dr ≤ 256 := by rw [← hdr]; exact Nat.le_trans (dep_lt A r) hbn
          have hw1 : IntKind.i64.wrap ((dr : Int) + 1) = (dr : Int) + 1 := IntWalk.i64_in _ (by omega)
          obtain ⟨wl, hwl2⟩ : ∃ wl, A.wayL r = wl := ⟨_, rfl⟩
          rw [hwl2] at hwl HDW HPD
          clear hdr hwl2
          go_loopw [92] (fun ix wr => ∃ i : Nat, i ≤ fl.length ∧ ix = .int .i64 i ∧ Hid (Keeps (fun _ => False) wg wr)) (fun ix _ => fl.length - (intOf ix).toNat)
          case atStart => exact ⟨0, by omega, rfl, hid (Keeps.refl _ _)⟩
          case round =>
            obtain ⟨i, hi, rfl, HKI⟩ := hrel
            have hi0 : (0 : Int) ≤ i := by omega
            by_cases hil : i < fl.length
            · obtain ⟨c, hc⟩ : ∃ c, fl[i]? = some c := ⟨_, List.getElem?_eq_getElem hil⟩
              have hil' : (i : Int) < (fl.length : Int) := by omega
              obtain ⟨hck, hcd⟩ := HFK.out c (List.mem_of_getElem? hc)
              rw [HDR.out] at hcd
              obtain ⟨gc, rfl, d0, d1⟩ := (RFg.out.keeps HKI.out (fun _ _ h => h)).cellk hc
              have ka : Keeps (fun _ => False) wg (wr.alloc (.cells #[.int .i64 c.s, .int .u32 c.g] 24)) := HKI.out.alloc _
              have hl1 := HVV.out _ (HKg.out.trans ka) c hck true
              have hl2 := HVV.out _ (HKg.out.trans ka) r HRK.out false
              rw [if_pos rfl] at hl1
              rw [if_neg (by decide), HDR.out] at hl2
              obtain ⟨dc, hdc⟩ : ∃ dc, A.dep c = dc := ⟨_, rfl⟩
              rw [hdc] at hl1 hcd
              have hgt : ¬ (dr : Int) + 1 < (dc : Int) := by omega
              obtain ⟨y0, y1, _, yl⟩ := cells2 (block_keep HQg.out ka (fun h => h))
              have HKA := hid ka
              clear hc hck ka hdc
              go_wp2_with fail
              exact ⟨⟨i + 1, by omega, by go_num, HKA⟩, by simp [intOf]; omega⟩
            · have hil' : ¬ (i : Int) < (fl.length : Int) := by omega
              obtain ⟨wi, rfl⟩ : ∃ wi : World, wi = wr := ⟨_, rfl⟩
              have HAi := hid (HAg.out.quiet HKI.out); have HKi := hid (HKg.out.trans HKI.out)
              obtain ⟨y0, y1, _, yl⟩ := cells2 (block_keep HQg.out HKI.out (fun h => h))
              clear hil hi hi0 HKI HAg HKg HQg RFg HFK
              go_wp2_with fail
              clear hil'
              refine (HPD.out _ HAi.out).mono ?_
              rintro e wj ⟨vj, rfl, hrj, kj⟩
              obtain ⟨pj, cj, rfl⟩ := hrj.refs.slice
              have HKj := hid (HKi.out.trans kj); have RWj := hid hrj.refs
              clear hrj kj HAi HKi HPD y0 y1 yl
              go_wp2_with fail
              go_loopw [128] (fun ix wr => ∃ i : Nat, i ≤ wl.length ∧ ix = .int .i64 i ∧ Hid (Keeps (fun _ => False) wj wr)) (fun ix _ => wl.length - (intOf ix).toNat)
              case atStart => exact ⟨0, by omega, rfl, hid (Keeps.refl _ _)⟩
              case round =>
                obtain ⟨i, hi, rfl, HKI⟩ := hrel
                have hi0 : (0 : Int) ≤ i := by omega
                by_cases hil : i < wl.length
                · obtain ⟨c, hc⟩ : ∃ c, wl[i]? = some c := ⟨_, List.getElem?_eq_getElem hil⟩
                  have hil' : (i : Int) < (wl.length : Int) := by omega
                  obtain ⟨hck, hcd⟩ := HDW.out i c hc
                  obtain ⟨gc, rfl, d0, d1⟩ := (RWj.out.keeps HKI.out (fun _ _ h => h)).cellk hc
                  have ka : Keeps (fun _ => False) wj (wr.alloc (.cells #[.int .i64 c.s, .int .u32 c.g] 24)) := HKI.out.alloc _
                  have hl1 := HVV.out _ (HKj.out.trans ka) c hck false
                  rw [if_neg (by decide), hcd] at hl1
                  have HKA := hid ka
                  clear hc hck ka hcd
                  go_wp2_with fail
                  exact ⟨⟨i + 1, by omega, by go_num, HKA⟩, by simp [intOf]; omega⟩
                · have hil' : ¬ (i : Int) < (wl.length : Int) := by omega
                  have HKz := hid (HKj.out.trans HKI.out)
                  clear hil hi hi0 HKI HKj RWj HDW
                  go_wp2_with fail
                  exact ⟨⟨j + 1, by omega, by go_num, HKz⟩, by simp [intOf]; omega⟩
        · have hlt' : ¬ (j : Int) < (D.length : Int) := by omega
          have HAz := hid (HAr.out.quiet HKR.out)
          clear hlt hj hj0 HKR HAr HHr RDr HVV
          go_wp2_with fail
          refine (works19 _).mono ?_
          rintro e wz ⟨rfl, kz⟩
          go_wp2_with fail
          go_ret
          exact ⟨rfl, (HAz.out.quiet kz).k.fresh⟩
set_option maxRecDepth 100000 in
theorem reachShort_law {H : Type} {enc : TypeId × Value → H} {base : Nat} {spare : Nat → Bool} {held : Bool} {r : Reach} {b0 : Nat}
    (v0 : Value) (d0 : DataW H) (p0 : List MemPlace) {w : World} (hv0 : Value.okWide Tryz.prog w r b0 56 v0) (h0 : DataW.Trod enc Tryz.prog w base spare held 56 v0 d0 p0)
    (w' : World) (e' : w' = w) :
    Calls Tryz.prog 4 #[v0] w' fun e w2 => e = .returned (.bool true) ∧ Keeps (fun _ => False) w' w2 := by
  subst e'
  obtain ⟨a, n, k, rfl, e1, e2, hx⟩ := open_flat_slice (ks := ks19) Tryz.underlying56 (by kernel_rfl) (by kernel_rfl) (by decide) hv0 h0
  obtain ⟨l, hl⟩ := mvrow19_of e1 e2 hx
  exact reachShort_walk _ l _ hl
end Go.Proofs.YtcpljmonmchloaaGreat
