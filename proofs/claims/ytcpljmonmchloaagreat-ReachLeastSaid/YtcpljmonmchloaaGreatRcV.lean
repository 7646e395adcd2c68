/- estraylaw19: child; ReachLeast. -/
import Derived.Test.YtcpljmonmchloaaGreatRcU
namespace Go.Proofs.YtcpljmonmchloaaGreat
open Go.RowKit Go.ChangeShapes Go.WideShapes Go.ChangeAt Go.Deep
set_option linter.unusedVariables false
set_option linter.unusedSimpArgs false

set_option maxRecDepth 100000 in
set_option maxHeartbeats 2000000 in
theorem child19 (b t : Nat) (H : Hp) (x y : Rf) (w : World) (h : HpAt w b t H) (hk : y ∈ kids H x) :
    Calls Tryz.prog 32 #[.pointer (some ⟨b, 0, none⟩), .agg #[.int .i64 x.s, .int .u32 x.g], .agg #[.int .i64 y.s, .int .u32 y.g]] w fun e w' => e = .returned (.bool true) ∧ Keeps (fun _ => False) w w' := by
  have hth := (mem_kids.1 hk).1
  have HOB := hid (fun W (hk : Keeps (fun _ => False) w W) => hobject_th b t H x W (h.keeps hk (fun h => h) (fun h => h)) hth)
  have hm : y ∈ ((H.ob x.s.toNat).upto 4).map (·.2) := by
    unfold kids at hk
    rw [if_pos (show ckV H.T x.s x.g = 0 from hth)] at hk
    exact (mem_hres.1 hk).1
  have HFR := hid (fun W => frefs_any (H.ob x.s.toNat) W)
  obtain ⟨o, ho⟩ : ∃ o, H.ob x.s.toNat = o := ⟨_, rfl⟩
  rw [ho] at HOB HFR hm
  simp only [Ob.arr] at HOB HFR
  have hfl : ((o.upto 4).map (·.2)).length ≤ 4 := by rw [List.length_map]; exact Ob.upto_len o 4
  obtain ⟨fl, hfl2⟩ : ∃ fl, (o.upto 4).map (·.2) = fl := ⟨_, rfl⟩
  rw [hfl2] at hfl hm
  have HFL := hid hfl2
  have HMD := hid (show decide (y ∈ fl) = true from decide_eq_true hm)
  clear h hk hth ho hm hfl2
  obtain ⟨wa, hwa⟩ : ∃ wa, (w.alloc (.cells #[.int .i64 x.s, .int .u32 x.g] 24)).alloc (.cells #[.int .i64 y.s, .int .u32 y.g] 24) = wa := ⟨_, rfl⟩
  have ka : Keeps (fun _ => False) w wa := by rw [← hwa]; exact ((Keeps.refl _ _).alloc _).alloc _
  have qx : wa.heap[w.heap.size]? = some (.cells #[.int .i64 x.s, .int .u32 x.g] 24) := by rw [← hwa]; exact alloc_old alloc_new
  have qy : wa.heap[w.heap.size + 1]? = some (.cells #[.int .i64 y.s, .int .u32 y.g] 24) := by rw [← hwa]; exact alloc_new' (by simp)
  have HKA := hid ka; have HQY := hid qy; have HWA := hid hwa
  obtain ⟨X, hX⟩ : ∃ X, w.heap.size = X := ⟨_, rfl⟩
  have HX := hid hX
  rw [hX] at qx
  rw [hX] at HQY
  clear ka qy hwa hX
  go_enter Tryz.func32, Tryz.ntmps32
  go_upto_region 1 with (fail)
  rw [HWA.out]
  try rw [HX.out]
  obtain ⟨x0, x1, _, xl⟩ := cells2 qx
  clear qx
  go_wp2_with fail
  refine (HOB.out _ HKA.out).mono ?_
  rintro e w1 ⟨rfl, k1⟩
  obtain ⟨Z, hZ⟩ : ∃ Z, w1.heap.size = Z := ⟨_, rfl⟩
  obtain ⟨w2, hw2⟩ : ∃ w2, w1.alloc (.cells #[.int .i64 o.n, .int .i64 o.f0.s, .int .u32 o.f0.g, .int .i64 o.f1.s, .int .u32 o.f1.g, .int .i64 o.f2.s, .int .u32 o.f2.g, .int .i64 o.f3.s, .int .u32 o.f3.g, .bool o.h] 29) = w2 := ⟨_, rfl⟩
  have k2 : Keeps (fun _ => False) w1 w2 := by rw [← hw2]; exact (Keeps.refl _ _).alloc _
  have q2 : w2.heap[Z]? = some (.cells #[.int .i64 o.n, .int .i64 o.f0.s, .int .u32 o.f0.g, .int .i64 o.f1.s, .int .u32 o.f1.g, .int .i64 o.f2.s, .int .u32 o.f2.g, .int .i64 o.f3.s, .int .u32 o.f3.g, .bool o.h] 29) := by rw [← hw2, ← hZ]; exact alloc_new
  have HK2 := hid ((HKA.out.trans k1).trans k2)
  have HQ2 := hid q2; have HQY2 := hid (block_keep (block_keep HQY.out k1 (fun h => h)) k2 (fun h => h))
  have HW2 := hid hw2; have HZ := hid hZ
  clear k1 k2 q2 hw2 hZ HQY x0 x1 xl
  go_upto_region 2 with (fail)
  try rw [HZ.out]
  rw [HW2.out]
  have HPS := hid (show ∀ W, Keeps (fun _ => False) w2 W → (W.cell? ⟨Z, 0, none⟩ = some (.int .i64 o.n) ∧ W.cell? ⟨Z, 1, none⟩ = some (.int .i64 o.f0.s) ∧ W.cell? ⟨Z, 2, none⟩ = some (.int .u32 o.f0.g) ∧ W.cell? ⟨Z, 3, none⟩ = some (.int .i64 o.f1.s) ∧ W.cell? ⟨Z, 4, none⟩ = some (.int .u32 o.f1.g) ∧ W.cell? ⟨Z, 5, none⟩ = some (.int .i64 o.f2.s) ∧ W.cell? ⟨Z, 6, none⟩ = some (.int .u32 o.f2.g) ∧ W.cell? ⟨Z, 7, none⟩ = some (.int .i64 o.f3.s) ∧ W.cell? ⟨Z, 8, none⟩ = some (.int .u32 o.f3.g) ∧ W.cell? ⟨Z, 9, none⟩ = some (.bool o.h) ∧ W.cell? ⟨X + 1, 0, none⟩ = some (.int .i64 y.s) ∧ W.cell? ⟨X + 1, 1, none⟩ = some (.int .u32 y.g)) from fun W hk => by
    obtain ⟨a0, a1, a2, a3, a4, a5, a6, a7, a8, a9, _, _⟩ := cells10 (block_keep HQ2.out hk (fun h => h))
    obtain ⟨b0, b1, _, _⟩ := cells2 (block_keep HQY2.out hk (fun h => h))
    exact ⟨a0, a1, a2, a3, a4, a5, a6, a7, a8, a9, b0, b1⟩)
  go_region_held3 (fun W => W.cell? ⟨Z, 0, none⟩ = some (.int .i64 o.n) ∧ W.cell? ⟨Z, 1, none⟩ = some (.int .i64 o.f0.s) ∧ W.cell? ⟨Z, 2, none⟩ = some (.int .u32 o.f0.g) ∧ W.cell? ⟨Z, 3, none⟩ = some (.int .i64 o.f1.s) ∧ W.cell? ⟨Z, 4, none⟩ = some (.int .u32 o.f1.g) ∧ W.cell? ⟨Z, 5, none⟩ = some (.int .i64 o.f2.s) ∧ W.cell? ⟨Z, 6, none⟩ = some (.int .u32 o.f2.g) ∧ W.cell? ⟨Z, 7, none⟩ = some (.int .i64 o.f3.s) ∧ W.cell? ⟨Z, 8, none⟩ = some (.int .u32 o.f3.g) ∧ W.cell? ⟨Z, 9, none⟩ = some (.bool o.h) ∧ W.cell? ⟨X + 1, 0, none⟩ = some (.int .i64 y.s) ∧ W.cell? ⟨X + 1, 1, none⟩ = some (.int .u32 y.g))
    ((refine HPS.out _ ?_; (repeat (first | with_reducible exact Keeps.refl _ _ | with_reducible refine Keeps.drewN ?_ _ | with_reducible refine Keeps.drew ?_ | with_reducible refine Keeps.alloc ?_ _ | with_reducible refine Keeps.trans ?_ kh | with_reducible refine Keeps.trans ?_ kk))))
    (first
      | (go_at_call 30; refine (HFR.out _).mono ?_; rw [HFL.out]; rintro e wh ⟨vo, rfl, hro, kh⟩)
      | (go_at_call 27; refine (rcontains vo fl y _ (hro.refs.keeps (S := fun _ => False) (by (repeat (first | with_reducible exact Keeps.refl _ _ | with_reducible refine Keeps.drewN ?_ _ | with_reducible refine Keeps.drew ?_ | with_reducible refine Keeps.alloc ?_ _))) (fun _ _ h => h)) (by omega)).mono ?_; rw [HMD.out]; rintro e wk ⟨rfl, kk⟩))
  all_goals
    go_wp2_with fail
    go_ret
    exact ⟨rfl, (by (repeat (first | with_reducible exact HK2.out | with_reducible refine Keeps.drewN ?_ _ | with_reducible refine Keeps.drew ?_ | with_reducible refine Keeps.alloc ?_ _ | with_reducible refine Keeps.trans ?_ kh | with_reducible refine Keeps.trans ?_ kk)))⟩
/-! plain -/
theorem closed_all {A : Ar} (hok : A.Ok) : thrE A.H (srt A.rq.keys) = 0 ∧ closB A.H ((srt A.rq.keys).filter (·.nz)) = true := by
  refine ⟨thrE_of fun r hr _ => rq_there (mem_srt.1 hr), ?_⟩
  unfold closB
  rw [List.all_eq_true]
  intro r hr
  rw [List.all_eq_true]
  intro c hc
  have hk := key_kid (mem_srt.1 (List.mem_filter.1 hr).1) hc
  exact decide_eq_true (List.mem_filter.2 ⟨mem_srt.2 hk, There.nz hok (rq_there hk)⟩)
theorem way_ends {A : Ar} {r : Rf} (hr : r ∈ A.rq.keys) : (A.wayL r)[A.dep r]? = some r ∧ ∃ x, (A.wayL r)[0]? = some x ∧ x ∈ A.glL ++ A.stks A.many := by
  obtain ⟨u, hu, he⟩ := way_u hr
  have hl := (dep_dp hr).2
  rw [he, List.length_reverse] at hl
  rw [he]
  constructor
  · rw [List.getElem?_reverse (by omega), show u.length - 1 - A.dep r = 0 by omega, ← List.head?_eq_getElem?]
    exact hu.head
  · obtain ⟨x, hx, hm⟩ := Wy.last (rq_exp A) hu
    refine ⟨x, ?_, (mem_hres.1 hm).1⟩
    rw [List.getElem?_reverse (by omega), ← hx, List.getLast?_eq_getElem?]
    congr 1
theorem way_kid {A : Ar} {r : Rf} (hr : r ∈ A.rq.keys) {k : Nat} {x y : Rf} (hx : (A.wayL r)[k]? = some x) (hy : (A.wayL r)[k + 1]? = some y) : y ∈ kids A.H x := by
  obtain ⟨u, hu, he⟩ := way_u hr
  rw [he] at hx hy
  have hk : k + 1 < u.length := by have := (List.getElem?_eq_some_iff.1 hy).1; rwa [List.length_reverse] at this
  rw [List.getElem?_reverse (by omega)] at hx hy
  exact Wy.kid (rq_exp A) hu _ y x hy (by rw [← hx]; congr 1; omega)
theorem sorted_lt {l : List Rf} (hb : BySlot l) (ho : OneSlot l) (hn : l.Nodup) {k : Nat} {x y : Rf} (hx : l[k]? = some x) (hy : l[k + 1]? = some y) : x.s < y.s := by
  have hle : x.s ≤ y.s := by
    have h1 := (List.getElem?_eq_some_iff.1 hx)
    have h2 := (List.getElem?_eq_some_iff.1 hy)
    obtain ⟨h1, rfl⟩ := h1
    obtain ⟨h2, rfl⟩ := h2
    exact List.pairwise_iff_getElem.1 hb k (k + 1) h1 h2 (by omega)
  rcases Int.lt_or_eq_of_le hle with h | h
  · exact h
  · have e := ho x (List.mem_of_getElem? hx) y (List.mem_of_getElem? hy) h
    have : l[k]? = l[k + 1]? := by rw [hx, hy, e]
    have := (List.getElem?_inj (List.getElem?_eq_some_iff.1 hx).1 hn).1 this
    omega
set_option maxRecDepth 100000 in
set_option maxHeartbeats 4000000 in
theorem reachLeast_walk (v1 : Value) (l : List Mv) (w : World) (h1 : MvRow w v1 l) :
    Calls Tryz.prog 5 #[v1] w fun e w' => e = .returned (.bool true) ∧ Keeps (fun _ => False) w w' := by
  have HPL := hid (played19 v1 l w h1)
  have hg := good19 l
  obtain ⟨A, hA⟩ : ∃ A, (Sys.pl19 l).A = A := ⟨_, rfl⟩
  have hnd := hg.nd
  have hok := hg.ok.a
  have hm2 := hg.many
  rw [hA] at HPL hnd hok hm2
  have hbn := hok.n2
  have HM2 := hid hm2; have HND := hid hnd; have hbn2 := hid hbn
  have HK := hid (fun r => mem_srt (l := A.rq.keys) (r := r))
  have hdl : (srt A.rq.keys).length ≤ 256 := by rw [(srt_perm _).length_eq]; exact Nat.le_trans (rq_len A) hbn
  have hcl := Nat.le_trans (lost_len A) hbn
  have hal := all_lost_len A
  have htl := Nat.le_trans (tk_len A.H.T) hbn
  have hclo := closed_all hok
  have HWF := hid (show ∀ r ∈ srt A.rq.keys, r.Wf from fun r hr => there_wf hok (rq_there (mem_srt.1 hr)))
  have HSL := hid (fun k x y => sorted_lt (k := k) (x := x) (y := y) (srt_sorted A.rq.keys) (oneSlot_there fun r hr => rq_there (mem_srt.1 hr)) ((srt_perm _).nodup_iff.2 (rq_nd A)))
  have HCM := hid (fun r => lost_iff (r := r) hnd)
  have HRI := hid (fun r => rq_iff (r := r) hnd)
  obtain ⟨D, hD⟩ : ∃ D, srt A.rq.keys = D := ⟨_, rfl⟩
  obtain ⟨C, hC⟩ : ∃ C, A.lostL = C := ⟨_, rfl⟩
  obtain ⟨T, hT⟩ : ∃ T, A.H.T.tk = T := ⟨_, rfl⟩
  rw [hD] at HK hdl hal hclo HWF HSL
  rw [hC] at hcl hal HCM
  rw [hT] at hal htl
  have HD := hid hD; have HC := hid hC; have HT := hid hT; have HCLO := hid hclo; have HOK := hid hok
  have hw1 : IntKind.i64.wrap ((D.length : Int) + (C.length : Int)) = (D.length : Int) + (C.length : Int) := IntWalk.i64_in _ (by omega)
  have hw2 : (D.length : Int) + (C.length : Int) = (T.length : Int) := by omega
  clear hD hC hT hA hg hnd hok h1 hclo
  go_enter Tryz.func5, Tryz.ntmps5
  go_wp2_with fail
  refine HPL.out.mono ?_
  rintro e w1 ⟨a, L, rfl, h1⟩
  have H1 := hid h1
  clear h1 HPL
  go_wp2_with fail
  refine (aheap_ok a L A w1 H1.out.ar).mono ?_
  rintro e w2 ⟨bh, th, rfl, k2, _, _, hh2⟩
  have H2 := hid (H1.out.quiet k2); have HH2 := hid hh2
  clear k2 hh2 H1
  go_wp2_with fail
  refine (all_ok a L A w2 H2.out.ar H2.out.ok).mono ?_
  rintro e w3 ⟨v3, rfl, hr3, k3⟩
  rw [HD.out] at hr3
  obtain ⟨p3, c3, rfl⟩ := hr3.refs.slice
  have H3 := hid (H2.out.quiet k3); have HH3 := hid (HH2.out.keeps k3 (fun h => h) (fun h => h)); have RD3 := hid hr3.refs
  clear hr3 k3 H2 HH2
  go_wp2_with fail
  refine (lost_ok a L A w3 H3.out.ar H3.out.ok).mono ?_
  rintro e w4 ⟨v4, rfl, hr4, k4⟩
  rw [HC.out] at hr4
  obtain ⟨p4, c4, rfl⟩ := hr4.refs.slice
  have H4 := hid (H3.out.quiet k4); have HH4 := hid (HH3.out.keeps k4 (fun h => h) (fun h => h)); have RD4 := hid (RD3.out.keeps k4 (fun _ _ h => h)); have RC4 := hid hr4.refs
  clear hr4 k4 H3 HH3 RD3
  have HCL := hid (closed_ok bh th A.H _ D w4 HH4.out RD4.out HWF.out (by omega))
  rw [HCLO.out.1, HCLO.out.2] at HCL
  go_wp2_with fail
  refine HCL.out.mono ?_
  rintro e w5 ⟨rfl, k5⟩
  have H5 := hid (H4.out.quiet k5); have HH5 := hid (HH4.out.keeps k5 (fun h => h) (fun h => h)); have RD5 := hid (RD4.out.keeps k5 (fun _ _ h => h)); have RC5 := hid (RC4.out.keeps k5 (fun _ _ h => h))
  clear k5 H4 HH4 RD4 RC4 HCL
  have HLN := hid (hlen_ok bh th A.H w5 HH5.out)
  rw [HT.out] at HLN
  go_wp2_with fail
  refine HLN.out.mono ?_
  rintro e w6 ⟨rfl, k6⟩
  have H6 := hid (H5.out.quiet k6); have HH6 := hid (HH5.out.keeps k6 (fun h => h) (fun h => h)); have RD6 := hid (RD5.out.keeps k6 (fun _ _ h => h)); have RC6 := hid (RC5.out.keeps k6 (fun _ _ h => h))
  clear k6 H5 HH5 RD5 RC5 HLN
  go_wp2_with fail
  refine (origins19 a L A w6 H6.out HM2.out).mono ?_
  rintro e w7 ⟨v7, rfl, hr7, hol, k7⟩
  have horg := fun r (hr : r ∈ A.glL ++ A.stks A.many) => orig_rch hr
  obtain ⟨O, hO⟩ : ∃ O, A.glL ++ A.stks A.many = O := ⟨_, rfl⟩
  rw [hO] at hr7 hol horg
  have HO := hid hO; have HORG := hid horg
  obtain ⟨p7, c7, rfl⟩ := hr7.refs.slice
  have H7 := hid (H6.out.quiet k7); have HH7 := hid (HH6.out.keeps k7 (fun h => h) (fun h => h)); have RD7 := hid (RD6.out.keeps k7 (fun _ _ h => h)); have RC7 := hid (RC6.out.keeps k7 (fun _ _ h => h)); have RO7 := hid hr7.refs
  clear hr7 k7 H6 HH6 RD6 RC6 hO horg hw1 hw2
  go_wp2_with fail
  go_loopw [78] (fun ix wr => ∃ j : Nat, j ≤ O.length ∧ ix = .int .i64 j ∧ Hid (Keeps (fun _ => False) w7 wr)) (fun ix _ => O.length - (intOf ix).toNat)
  case atStart => exact ⟨0, by omega, rfl, hid (Keeps.refl _ _)⟩
  case round =>
    obtain ⟨j, hj, rfl, HKR⟩ := hrel
    have hj0 : (0 : Int) ≤ j := by omega
    by_cases hlt : j < O.length
    · obtain ⟨r, hr⟩ : ∃ r, O[j]? = some r := ⟨_, List.getElem?_eq_getElem hlt⟩
      have hlt' : (j : Int) < (O.length : Int) := by omega
      have hmd : decide (r ∈ D) = true := decide_eq_true ((HK.out r).2 ((HRI.out r).2 (HORG.out r (List.mem_of_getElem? hr))))
      obtain ⟨g, rfl, d0, d1⟩ := (RO7.out.keeps HKR.out (fun _ _ h => h)).cellk hr
      have ka : Keeps (fun _ => False) w7 (wr.alloc (.cells #[.int .i64 r.s, .int .u32 r.g] 24)) := HKR.out.alloc _
      have HCT := hid (rcontains _ D r _ (RD7.out.keeps ka (fun _ _ h => h)) (by omega))
      rw [hmd] at HCT
      have HKA := hid ka
      clear hr ka hmd
      go_wp2_with fail
      refine HCT.out.mono ?_
      rintro e wx ⟨rfl, kx⟩
      have HKX := hid (HKA.out.trans kx)
      clear kx d0 d1 HCT HKA
      go_wp2_with fail
      exact ⟨⟨j + 1, by omega, by go_num, HKX⟩, by simp [intOf]; omega⟩
    · have hlt' : ¬ (j : Int) < (O.length : Int) := by omega
      obtain ⟨w8, rfl⟩ : ∃ w8 : World, w8 = wr := ⟨_, rfl⟩
      have H8 := hid (H7.out.quiet HKR.out); have HH8 := hid (HH7.out.keeps HKR.out (fun h => h) (fun h => h)); have RD8 := hid (RD7.out.keeps HKR.out (fun _ _ h => h)); have RC8 := hid (RC7.out.keeps HKR.out (fun _ _ h => h))
      clear hlt hj hj0 HKR H7 HH7 RD7 RC7 RO7
      go_wp2_with fail
      clear hlt'
      go_loopw [89] (fun ix wr => ∃ j : Nat, j ≤ D.length ∧ ix = .int .i64 j ∧ Hid (Keeps (fun _ => False) w8 wr)) (fun ix _ => D.length - (intOf ix).toNat)
      case atStart => exact ⟨0, by omega, rfl, hid (Keeps.refl _ _)⟩
      case round =>
        obtain ⟨j, hj, rfl, HKR⟩ := hrel
        have hj0 : (0 : Int) ≤ j := by omega
        by_cases hlt : j < D.length
        · obtain ⟨r, hr⟩ : ∃ r, D[j]? = some r := ⟨_, List.getElem?_eq_getElem hlt⟩
          have hlt' : (j : Int) < (D.length : Int) := by omega
          have hrk : r ∈ A.rq.keys := (HK.out r).1 (List.mem_of_getElem? hr)
          obtain ⟨g, rfl, d0, d1⟩ := (RD8.out.keeps HKR.out (fun _ _ h => h)).cellk hr
          have HPD := hid (fun W (h : Ay w.heap.size w W a L A) => path_dep r W h hrk)
          have HDD := hid (fun W (h : Ay w.heap.size w W a L A) => depth_dep r W h hrk)
          have HWK := hid (fun (k : Nat) (x y : Rf) => way_kid (k := k) (x := x) (y := y) hrk)
          obtain ⟨hwe, xo, hxo, hxm⟩ := way_ends hrk
          have hwl := (dep_dp hrk).2
          obtain ⟨d, hd⟩ : ∃ d, A.dep r = d := ⟨_, rfl⟩
          have hdn : d ≤ 256 := by rw [← hd]; exact Nat.le_trans (dep_lt A r) hbn2.out
          obtain ⟨wl, hw⟩ : ∃ wl, A.wayL r = wl := ⟨_, rfl⟩
          rw [hw] at HPD HWK hwe hxo hwl
          rw [hd] at HDD hwe hwl
          have hmo : decide (xo ∈ A.glL ++ A.stks A.many) = true := decide_eq_true hxm
          have hmc : decide (r ∈ C) = false := decide_eq_false (fun h => ((HCM.out r).1 h).2 ((HRI.out r).1 hrk))
          have HMO := hid hmo; have HMC := hid hmc; have HWL := hid hwl; have HWE := hid hwe; have HXO := hid hxo; have HR := hid hr
          obtain ⟨Y, hY⟩ : ∃ Y, wr.heap.size = Y := ⟨_, rfl⟩
          obtain ⟨we, hwe2⟩ : ∃ we, wr.alloc (.cells #[.int .i64 r.s, .int .u32 r.g] 24) = we := ⟨_, rfl⟩
          have ke : Keeps (fun _ => False) w8 we := by rw [← hwe2]; exact HKR.out.alloc _
          have qe : we.heap[Y]? = some (.cells #[.int .i64 r.s, .int .u32 r.g] 24) := by rw [← hwe2, ← hY]; exact alloc_new
          have HKE := hid ke; have HQE := hid qe; have HWE2 := hid hwe2; have HYY := hid hY
          obtain ⟨y0, y1, _, yl⟩ := cells2 qe
          clear hr hrk hwe hxo hxm hwl hd hw hmo hmc ke qe hwe2 hY
          go_upto_region 19 with (fail)
          try rw [HYY.out]
          rw [HWE2.out]
          go_wp2_with fail
          refine (HPD.out _ (H8.out.quiet HKE.out)).mono ?_
          rintro e wf ⟨vf, rfl, hrf, kf⟩
          obtain ⟨pf, cf, rfl⟩ := hrf.refs.slice
          rw [HWL.out]
          have hrf2 := hrf.refs
          rw [HWL.out] at hrf2
          obtain ⟨gw, rfl, e0, e1⟩ := hrf2.cellk HWE.out
          have HKf := hid (HKE.out.trans kf); have HQf := hid (block_keep HQE.out kf (fun h => h)); have RWf := hid hrf2
          clear hrf hrf2 kf e0 e1 d0 d1 y0 y1 yl HKE HQE HPD
          obtain ⟨y0, y1, _, yl⟩ := cells2 HQf.out
          go_wp2_with fail
          refine (HDD.out _ (H8.out.quiet HKf.out)).mono ?_
          rintro e wg ⟨rfl, kg⟩
          have HKg := hid (HKf.out.trans kg); have HQg := hid (block_keep HQf.out kg (fun h => h)); have RWg := hid (RWf.out.keeps kg (fun _ _ h => h))
          clear kg y0 y1 yl HKf HQf RWf HDD
          go_upto_region 21 with (fail)
          have HPS := hid (show ∀ W, Keeps (fun _ => False) wg W → (W.cell? ⟨Y, 0, none⟩ = some (.int .i64 r.s) ∧ W.cell? ⟨Y, 1, none⟩ = some (.int .u32 r.g) ∧ W.cell? ⟨gw, d * 2, none⟩ = some (.int .i64 r.s) ∧ W.cell? ⟨gw, d * 2 + 1, none⟩ = some (.int .u32 r.g) ∧ W.cell? ⟨gw, 0, none⟩ = some (.int .i64 xo.s) ∧ W.cell? ⟨gw, 1, none⟩ = some (.int .u32 xo.g)) from fun W hk => by
            obtain ⟨a0, a1, _, _⟩ := cells2 (block_keep HQg.out hk (fun h => h))
            obtain ⟨g1, hg1, b0, b1⟩ := (RWg.out.keeps hk (fun _ _ h => h)).cellk HWE.out
            obtain ⟨g2, hg2, c0, c1⟩ := (RWg.out.keeps hk (fun _ _ h => h)).cellk HXO.out
            injection hg1 with hg1; injection hg1 with hg1
            injection hg2 with hg2; injection hg2 with hg2
            subst hg1
            subst hg2
            exact ⟨a0, a1, b0, b1, by simpa using c0, by simpa using c1⟩)
          have hneq : ∀ W, Sem.run Tryz.prog (binOp .neq 24 (.agg #[.int .i64 r.s, .int .u32 r.g]) (.agg #[.int .i64 r.s, .int .u32 r.g])) W = .ok (.bool false) W := fun W => by rw [neq_ref]; simp
          have hd0 : (0 : Int) ≤ (d : Int) := by omega
          have hd1 : IntKind.i64.wrap ((d : Int) + 1) = (d : Int) + 1 := IntWalk.i64_in _ (by omega)
          have hd2 : (d : Int) < (d : Int) + 1 := by omega
          have hd3 : (0 : Int) < (d : Int) + 1 := by omega
          have hd4 : ¬ (d : Int) < 0 := by omega
          go_cut [169] (fun s169 wx => s169 = .bool false ∧ Hid (Keeps (fun _ => False) wg wx))
          case first =>
           rcases j with _ | k
           · rw [show ((0 : Nat) : Int) = 0 from rfl]
             clear hlt hj hj0 hlt'
             refine wp_region_noPanic ?_
             refine wp_region_held_drew (S := (fun W => W.cell? ⟨Y, 0, none⟩ = some (.int .i64 r.s) ∧ W.cell? ⟨Y, 1, none⟩ = some (.int .u32 r.g) ∧ W.cell? ⟨gw, d * 2, none⟩ = some (.int .i64 r.s) ∧ W.cell? ⟨gw, d * 2 + 1, none⟩ = some (.int .u32 r.g) ∧ W.cell? ⟨gw, 0, none⟩ = some (.int .i64 xo.s) ∧ W.cell? ⟨gw, 1, none⟩ = some (.int .u32 xo.g))) (by kernel_rfl) ?_ (fun hHeld => ?_)
             · exact HPS.out _ (by (repeat (first | with_reducible exact Keeps.refl _ _ | with_reducible refine Keeps.drewN ?_ _ | with_reducible refine Keeps.drew ?_ | with_reducible refine Keeps.alloc ?_ _)))
             refine wpAnyH_take (i := 0) (v := ?_) rfl (by kernel_rfl) (by kernel_rfl) (by kernel_rfl) (fun _ _ _ h => h) (Or.inl ⟨by rfl, ?_⟩) (by assumption) ?_
             rotate_left
             · (intro w hSw; (try dsimp only at hSw); simp only [List.getElem_toArray, List.getElem_cons_zero, List.getElem_cons_succ]; go_simp; (first | done | with_reducible rfl))
             simp only [List.getElem_toArray, List.getElem_cons_zero, List.getElem_cons_succ, Act.put, List.setIfInBounds_toArray, List.set_cons_zero, List.set_cons_succ]
             refine wpAnyH_take (i := 1) (v := ?_) rfl (by kernel_rfl) (by kernel_rfl) (by kernel_rfl) (fun _ _ _ h => h) (Or.inl ⟨by rfl, ?_⟩) (by assumption) ?_
             rotate_left
             · (intro w hSw; (try dsimp only at hSw); simp only [List.getElem_toArray, List.getElem_cons_zero, List.getElem_cons_succ]; go_simp; (first | done | with_reducible rfl))
             simp only [List.getElem_toArray, List.getElem_cons_zero, List.getElem_cons_succ, Act.put, List.setIfInBounds_toArray, List.set_cons_zero, List.set_cons_succ]
             refine wpAnyH_take (i := 2) (v := ?_) rfl (by kernel_rfl) (by kernel_rfl) (by kernel_rfl) (fun _ _ _ h => h) (Or.inl ⟨by rfl, ?_⟩) (by assumption) ?_
             rotate_left
             · (intro w hSw; (try dsimp only at hSw); simp only [List.getElem_toArray, List.getElem_cons_zero, List.getElem_cons_succ]; go_simp; (first | done | with_reducible rfl))
             simp only [List.getElem_toArray, List.getElem_cons_zero, List.getElem_cons_succ, Act.put, List.setIfInBounds_toArray, List.set_cons_zero, List.set_cons_succ]
             refine wpAnyH_take (i := 3) (v := undef) rfl (by kernel_rfl) (by kernel_rfl) (by kernel_rfl) (fun _ _ _ h => h) (Or.inr ⟨by rfl, rfl⟩) (by assumption) ?_
             simp only [List.getElem_toArray, List.getElem_cons_zero, List.getElem_cons_succ, Act.put, List.setIfInBounds_toArray, List.set_cons_zero, List.set_cons_succ]
             refine wpAnyH_take (i := 4) (v := undef) rfl (by kernel_rfl) (by kernel_rfl) (by kernel_rfl) (fun _ _ _ h => h) (Or.inr ⟨by rfl, rfl⟩) (by assumption) ?_
             simp only [List.getElem_toArray, List.getElem_cons_zero, List.getElem_cons_succ, Act.put, List.setIfInBounds_toArray, List.set_cons_zero, List.set_cons_succ]
             refine wpAnyH_take (i := 5) (v := undef) rfl (by kernel_rfl) (by kernel_rfl) (by kernel_rfl) (fun _ _ _ h => h) (Or.inr ⟨by rfl, rfl⟩) (by assumption) ?_
             simp only [List.getElem_toArray, List.getElem_cons_zero, List.getElem_cons_succ, Act.put, List.setIfInBounds_toArray, List.set_cons_zero, List.set_cons_succ]
             refine wpAnyH_take (i := 6) (v := undef) rfl (by kernel_rfl) (by kernel_rfl) (by kernel_rfl) (fun _ _ _ h => h) (Or.inr ⟨by rfl, rfl⟩) (by assumption) ?_
             simp only [List.getElem_toArray, List.getElem_cons_zero, List.getElem_cons_succ, Act.put, List.setIfInBounds_toArray, List.set_cons_zero, List.set_cons_succ]
             refine wpAnyH_take (i := 7) (v := undef) rfl (by kernel_rfl) (by kernel_rfl) (by kernel_rfl) (fun _ _ _ h => h) (Or.inr ⟨by rfl, rfl⟩) (by assumption) ?_
             simp only [List.getElem_toArray, List.getElem_cons_zero, List.getElem_cons_succ, Act.put, List.setIfInBounds_toArray, List.set_cons_zero, List.set_cons_succ]
             refine wpAnyH_take (i := 8) (v := undef) rfl (by kernel_rfl) (by kernel_rfl) (by kernel_rfl) (fun _ _ _ h => h) (Or.inr ⟨by rfl, rfl⟩) (by assumption) ?_
             simp only [List.getElem_toArray, List.getElem_cons_zero, List.getElem_cons_succ, Act.put, List.setIfInBounds_toArray, List.set_cons_zero, List.set_cons_succ]
             refine wpAnyH_take (i := 9) (v := undef) rfl (by kernel_rfl) (by kernel_rfl) (by kernel_rfl) (fun _ _ _ h => h) (Or.inr ⟨by rfl, rfl⟩) (by assumption) ?_
             simp only [List.getElem_toArray, List.getElem_cons_zero, List.getElem_cons_succ, Act.put, List.setIfInBounds_toArray, List.set_cons_zero, List.set_cons_succ]
             refine wpAnyH_take (i := 10) (v := undef) rfl (by kernel_rfl) (by kernel_rfl) (by kernel_rfl) (fun _ _ _ h => h) (Or.inr ⟨by rfl, rfl⟩) (by assumption) ?_
             simp only [List.getElem_toArray, List.getElem_cons_zero, List.getElem_cons_succ, Act.put, List.setIfInBounds_toArray, List.set_cons_zero, List.set_cons_succ]
             refine wpAnyH_take (i := 11) (v := undef) rfl (by kernel_rfl) (by kernel_rfl) (by kernel_rfl) (fun _ _ _ h => h) (Or.inr ⟨by rfl, rfl⟩) (by assumption) ?_
             simp only [List.getElem_toArray, List.getElem_cons_zero, List.getElem_cons_succ, Act.put, List.setIfInBounds_toArray, List.set_cons_zero, List.set_cons_succ]
             refine wpAnyH_take (i := 12) (v := ?_) rfl (by kernel_rfl) (by kernel_rfl) (by kernel_rfl) (fun _ _ _ h => h) (Or.inl ⟨by rfl, ?_⟩) (by assumption) ?_
             rotate_left
             · (intro w hSw; (try dsimp only at hSw); simp only [List.getElem_toArray, List.getElem_cons_zero, List.getElem_cons_succ]; go_simp; (first | done | with_reducible rfl))
             simp only [List.getElem_toArray, List.getElem_cons_zero, List.getElem_cons_succ, Act.put, List.setIfInBounds_toArray, List.set_cons_zero, List.set_cons_succ]
             refine wpAnyH_take (i := 13) (v := ?_) rfl (by kernel_rfl) (by kernel_rfl) (by kernel_rfl) (fun _ _ _ h => h) (Or.inl ⟨by rfl, ?_⟩) (by assumption) ?_
             rotate_left
             · (intro w hSw; (try dsimp only at hSw); simp only [List.getElem_toArray, List.getElem_cons_zero, List.getElem_cons_succ]; go_simp; (first | done | with_reducible rfl))
             simp only [List.getElem_toArray, List.getElem_cons_zero, List.getElem_cons_succ, Act.put, List.setIfInBounds_toArray, List.set_cons_zero, List.set_cons_succ]
             refine wpAnyH_take (i := 14) (v := ?_) rfl (by kernel_rfl) (by kernel_rfl) (by kernel_rfl) (fun _ _ _ h => h) (Or.inl ⟨by rfl, ?_⟩) (by assumption) ?_
             rotate_left
             · (intro w hSw; (try dsimp only at hSw); simp only [List.getElem_toArray, List.getElem_cons_zero, List.getElem_cons_succ]; go_simp; (first | done | with_reducible rfl))
             simp only [List.getElem_toArray, List.getElem_cons_zero, List.getElem_cons_succ, Act.put, List.setIfInBounds_toArray, List.set_cons_zero, List.set_cons_succ]
             refine wpAnyH_take (i := 15) (v := ?_) rfl (by kernel_rfl) (by kernel_rfl) (by kernel_rfl) (fun _ _ _ h => h) (Or.inl ⟨by rfl, ?_⟩) (by assumption) ?_
             rotate_left
             · (intro w hSw; (try dsimp only at hSw); simp only [List.getElem_toArray, List.getElem_cons_zero, List.getElem_cons_succ]; go_simp; (first | done | with_reducible rfl))
             simp only [List.getElem_toArray, List.getElem_cons_zero, List.getElem_cons_succ, Act.put, List.setIfInBounds_toArray, List.set_cons_zero, List.set_cons_succ]
             refine wpAnyH_take (i := 16) (v := ?_) rfl (by kernel_rfl) (by kernel_rfl) (by kernel_rfl) (fun _ _ _ h => h) (Or.inl ⟨by rfl, ?_⟩) (by assumption) ?_
             rotate_left
             · (intro w hSw; (try dsimp only at hSw); simp only [List.getElem_toArray, List.getElem_cons_zero, List.getElem_cons_succ]; go_simp; (first | done | with_reducible rfl))
             simp only [List.getElem_toArray, List.getElem_cons_zero, List.getElem_cons_succ, Act.put, List.setIfInBounds_toArray, List.set_cons_zero, List.set_cons_succ]
             refine wpAnyH_take (i := 17) (v := ?_) rfl (by kernel_rfl) (by kernel_rfl) (by kernel_rfl) (fun _ _ _ h => h) (Or.inl ⟨by rfl, ?_⟩) (by assumption) ?_
             rotate_left
             · (intro w hSw; (try dsimp only at hSw); simp only [List.getElem_toArray, List.getElem_cons_zero, List.getElem_cons_succ]; go_simp; (first | done | with_reducible rfl))
             simp only [List.getElem_toArray, List.getElem_cons_zero, List.getElem_cons_succ, Act.put, List.setIfInBounds_toArray, List.set_cons_zero, List.set_cons_succ]
             refine wpAnyH_take (i := 18) (v := ?_) rfl (by kernel_rfl) (by kernel_rfl) (by kernel_rfl) (fun _ _ _ h => h) (Or.inl ⟨by rfl, ?_⟩) (by assumption) ?_
             rotate_left
             · (intro w hSw; (try dsimp only at hSw); simp only [List.getElem_toArray, List.getElem_cons_zero, List.getElem_cons_succ]; go_simp; (first | done | with_reducible rfl))
             simp only [List.getElem_toArray, List.getElem_cons_zero, List.getElem_cons_succ, Act.put, List.setIfInBounds_toArray, List.set_cons_zero, List.set_cons_succ]
             refine wpAnyH_take (i := 19) (v := ?_) rfl (by kernel_rfl) (by kernel_rfl) (by kernel_rfl) (fun _ _ _ h => h) (Or.inl ⟨by rfl, ?_⟩) (by assumption) ?_
             rotate_left
             · (intro w hSw; (try dsimp only at hSw); simp only [List.getElem_toArray, List.getElem_cons_zero, List.getElem_cons_succ]; go_simp; (first | done | with_reducible rfl))
             simp only [List.getElem_toArray, List.getElem_cons_zero, List.getElem_cons_succ, Act.put, List.setIfInBounds_toArray, List.set_cons_zero, List.set_cons_succ]
             refine wpAnyH_take (i := 20) (v := ?_) rfl (by kernel_rfl) (by kernel_rfl) (by kernel_rfl) (fun _ _ _ h => h) (Or.inl ⟨by rfl, ?_⟩) (by assumption) ?_
             rotate_left
             · (intro w hSw; (try dsimp only at hSw); simp only [List.getElem_toArray, List.getElem_cons_zero, List.getElem_cons_succ]; go_simp; (first | done | with_reducible rfl))
             simp only [List.getElem_toArray, List.getElem_cons_zero, List.getElem_cons_succ, Act.put, List.setIfInBounds_toArray, List.set_cons_zero, List.set_cons_succ]
             refine wpAnyH_take (i := 21) (v := ?_) rfl (by kernel_rfl) (by kernel_rfl) (by kernel_rfl) (fun _ _ _ h => h) (Or.inl ⟨by rfl, ?_⟩) (by assumption) ?_
             rotate_left
             · (intro w hSw; (try dsimp only at hSw); simp only [List.getElem_toArray, List.getElem_cons_zero, List.getElem_cons_succ]; go_simp; (first | done | with_reducible rfl))
             simp only [List.getElem_toArray, List.getElem_cons_zero, List.getElem_cons_succ, Act.put, List.setIfInBounds_toArray, List.set_cons_zero, List.set_cons_succ]
             refine wpAnyH_take (i := 22) (v := ?_) rfl (by kernel_rfl) (by kernel_rfl) (by kernel_rfl) (fun _ _ _ h => h) (Or.inl ⟨by rfl, ?_⟩) (by assumption) ?_
             rotate_left
             · (intro w hSw; (try dsimp only at hSw); simp only [List.getElem_toArray, List.getElem_cons_zero, List.getElem_cons_succ]; go_simp; (first | done | with_reducible rfl))
             simp only [List.getElem_toArray, List.getElem_cons_zero, List.getElem_cons_succ, Act.put, List.setIfInBounds_toArray, List.set_cons_zero, List.set_cons_succ]
             refine wpAnyH_take (i := 23) (v := ?_) rfl (by kernel_rfl) (by kernel_rfl) (by kernel_rfl) (fun _ _ _ h => h) (Or.inl ⟨by rfl, ?_⟩) (by assumption) ?_
             rotate_left
             · (intro w hSw; (try dsimp only at hSw); simp only [List.getElem_toArray, List.getElem_cons_zero, List.getElem_cons_succ]; go_simp; (first | done | with_reducible rfl))
             simp only [List.getElem_toArray, List.getElem_cons_zero, List.getElem_cons_succ, Act.put, List.setIfInBounds_toArray, List.set_cons_zero, List.set_cons_succ]
             refine wpAnyH_take (i := 24) (v := ?_) rfl (by kernel_rfl) (by kernel_rfl) (by kernel_rfl) (fun _ _ _ h => h) (Or.inl ⟨by rfl, ?_⟩) (by assumption) ?_
             rotate_left
             · (intro w hSw; (try dsimp only at hSw); simp only [List.getElem_toArray, List.getElem_cons_zero, List.getElem_cons_succ]; go_simp; (first | done | with_reducible rfl))
             simp only [List.getElem_toArray, List.getElem_cons_zero, List.getElem_cons_succ, Act.put, List.setIfInBounds_toArray, List.set_cons_zero, List.set_cons_succ]
             refine wpAnyH_take (i := 25) (v := ?_) rfl (by kernel_rfl) (by kernel_rfl) (by kernel_rfl) (fun _ _ _ h => h) (Or.inl ⟨by rfl, ?_⟩) (by assumption) ?_
             rotate_left
             · (intro w hSw; (try dsimp only at hSw); simp only [List.getElem_toArray, List.getElem_cons_zero, List.getElem_cons_succ]; go_simp; (first | done | with_reducible rfl))
             simp only [List.getElem_toArray, List.getElem_cons_zero, List.getElem_cons_succ, Act.put, List.setIfInBounds_toArray, List.set_cons_zero, List.set_cons_succ]
             refine wpAnyH_take (i := 26) (v := ?_) rfl (by kernel_rfl) (by kernel_rfl) (by kernel_rfl) (fun _ _ _ h => h) (Or.inl ⟨by rfl, ?_⟩) (by assumption) ?_
             rotate_left
             · (intro w hSw; (try dsimp only at hSw); simp only [List.getElem_toArray, List.getElem_cons_zero, List.getElem_cons_succ]; go_simp; (first | done | with_reducible rfl))
             simp only [List.getElem_toArray, List.getElem_cons_zero, List.getElem_cons_succ, Act.put, List.setIfInBounds_toArray, List.set_cons_zero, List.set_cons_succ]
             refine wpAnyH_take (i := 27) (v := ?_) rfl (by kernel_rfl) (by kernel_rfl) (by kernel_rfl) (fun _ _ _ h => h) (Or.inl ⟨by rfl, ?_⟩) (by assumption) ?_
             rotate_left
             · (intro w hSw; (try dsimp only at hSw); simp only [List.getElem_toArray, List.getElem_cons_zero, List.getElem_cons_succ]; go_simp; (first | done | with_reducible rfl))
             simp only [List.getElem_toArray, List.getElem_cons_zero, List.getElem_cons_succ, Act.put, List.setIfInBounds_toArray, List.set_cons_zero, List.set_cons_succ]
             refine wpAnyH_take (i := 28) (v := ?_) rfl (by kernel_rfl) (by kernel_rfl) (by kernel_rfl) (fun _ _ _ h => h) (Or.inl ⟨by rfl, ?_⟩) (by assumption) ?_
             rotate_left
             · (intro w hSw; (try dsimp only at hSw); simp only [List.getElem_toArray, List.getElem_cons_zero, List.getElem_cons_succ]; go_simp; (first | done | with_reducible rfl))
             simp only [List.getElem_toArray, List.getElem_cons_zero, List.getElem_cons_succ, Act.put, List.setIfInBounds_toArray, List.set_cons_zero, List.set_cons_succ]
             refine wpAnyH_take (i := 29) (v := ?_) rfl (by kernel_rfl) (by kernel_rfl) (by kernel_rfl) (fun _ _ _ h => h) (Or.inl ⟨by rfl, ?_⟩) (by assumption) ?_
             rotate_left
             · (intro w hSw; (try dsimp only at hSw); simp only [List.getElem_toArray, List.getElem_cons_zero, List.getElem_cons_succ]; go_simp; (first | done | with_reducible rfl))
             simp only [List.getElem_toArray, List.getElem_cons_zero, List.getElem_cons_succ, Act.put, List.setIfInBounds_toArray, List.set_cons_zero, List.set_cons_succ]
             refine wpAnyH_take (i := 30) (v := ?_) rfl (by kernel_rfl) (by kernel_rfl) (by kernel_rfl) (fun _ _ _ h => h) (Or.inl ⟨by rfl, ?_⟩) (by assumption) ?_
             rotate_left
             · (intro w hSw; (try dsimp only at hSw); simp only [List.getElem_toArray, List.getElem_cons_zero, List.getElem_cons_succ]; go_simp; (first | done | with_reducible rfl))
             simp only [List.getElem_toArray, List.getElem_cons_zero, List.getElem_cons_succ, Act.put, List.setIfInBounds_toArray, List.set_cons_zero, List.set_cons_succ]
             refine wpAnyH_take (i := 31) (v := ?_) rfl (by kernel_rfl) (by kernel_rfl) (by kernel_rfl) (fun _ _ _ h => h) (Or.inl ⟨by rfl, ?_⟩) (by assumption) ?_
             rotate_left
             · (intro w hSw; (try dsimp only at hSw); simp only [List.getElem_toArray, List.getElem_cons_zero, List.getElem_cons_succ]; go_simp; (first | done | with_reducible rfl))
             simp only [List.getElem_toArray, List.getElem_cons_zero, List.getElem_cons_succ, Act.put, List.setIfInBounds_toArray, List.set_cons_zero, List.set_cons_succ]
             refine wpAnyH_take (i := 32) (v := ?_) rfl (by kernel_rfl) (by kernel_rfl) (by kernel_rfl) (fun _ _ _ h => h) (Or.inl ⟨by rfl, ?_⟩) (by assumption) ?_
             rotate_left
             · (intro w hSw; (try dsimp only at hSw); simp only [List.getElem_toArray, List.getElem_cons_zero, List.getElem_cons_succ]; go_simp; (first | done | with_reducible rfl))
             simp only [List.getElem_toArray, List.getElem_cons_zero, List.getElem_cons_succ, Act.put, List.setIfInBounds_toArray, List.set_cons_zero, List.set_cons_succ]
             refine wpAnyH_take (i := 33) (v := ?_) rfl (by kernel_rfl) (by kernel_rfl) (by kernel_rfl) (fun _ _ _ h => h) (Or.inl ⟨by rfl, ?_⟩) (by assumption) ?_
             rotate_left
             · (intro w hSw; (try dsimp only at hSw); simp only [List.getElem_toArray, List.getElem_cons_zero, List.getElem_cons_succ]; go_simp; (first | done | with_reducible rfl))
             simp only [List.getElem_toArray, List.getElem_cons_zero, List.getElem_cons_succ, Act.put, List.setIfInBounds_toArray, List.set_cons_zero, List.set_cons_succ]
             refine wpAnyH_take (i := 34) (v := ?_) rfl (by kernel_rfl) (by kernel_rfl) (by kernel_rfl) (fun _ _ _ h => h) (Or.inl ⟨by rfl, ?_⟩) (by assumption) ?_
             rotate_left
             · (intro w hSw; (try dsimp only at hSw); simp only [List.getElem_toArray, List.getElem_cons_zero, List.getElem_cons_succ]; go_simp; (first | done | with_reducible rfl))
             simp only [List.getElem_toArray, List.getElem_cons_zero, List.getElem_cons_succ, Act.put, List.setIfInBounds_toArray, List.set_cons_zero, List.set_cons_succ]
             refine wpAnyH_take (i := 35) (v := ?_) rfl (by kernel_rfl) (by kernel_rfl) (by kernel_rfl) (fun _ _ _ h => h) (Or.inl ⟨by rfl, ?_⟩) (by assumption) ?_
             rotate_left
             · (intro w hSw; (try dsimp only at hSw); simp only [List.getElem_toArray, List.getElem_cons_zero, List.getElem_cons_succ]; go_simp; (first | done | with_reducible rfl))
             simp only [List.getElem_toArray, List.getElem_cons_zero, List.getElem_cons_succ, Act.put, List.setIfInBounds_toArray, List.set_cons_zero, List.set_cons_succ]
             refine wpAnyH_take (i := 36) (v := ?_) rfl (by kernel_rfl) (by kernel_rfl) (by kernel_rfl) (fun _ _ _ h => h) (Or.inl ⟨by rfl, ?_⟩) (by assumption) ?_
             rotate_left
             · (intro w hSw; (try dsimp only at hSw); simp only [List.getElem_toArray, List.getElem_cons_zero, List.getElem_cons_succ]; go_simp; (first | done | with_reducible rfl))
             simp only [List.getElem_toArray, List.getElem_cons_zero, List.getElem_cons_succ, Act.put, List.setIfInBounds_toArray, List.set_cons_zero, List.set_cons_succ]
             refine wpAnyH_take (i := 37) (v := ?_) rfl (by kernel_rfl) (by kernel_rfl) (by kernel_rfl) (fun _ _ _ h => h) (Or.inl ⟨by rfl, ?_⟩) (by assumption) ?_
             rotate_left
             · (intro w hSw; (try dsimp only at hSw); simp only [List.getElem_toArray, List.getElem_cons_zero, List.getElem_cons_succ]; go_simp; (first | done | with_reducible rfl))
             simp only [List.getElem_toArray, List.getElem_cons_zero, List.getElem_cons_succ, Act.put, List.setIfInBounds_toArray, List.set_cons_zero, List.set_cons_succ]
             refine wpAnyH_take (i := 38) (v := ?_) rfl (by kernel_rfl) (by kernel_rfl) (by kernel_rfl) (fun _ _ _ h => h) (Or.inl ⟨by rfl, ?_⟩) (by assumption) ?_
             rotate_left
             · (intro w hSw; (try dsimp only at hSw); simp only [List.getElem_toArray, List.getElem_cons_zero, List.getElem_cons_succ]; go_simp; (first | done | with_reducible rfl))
             simp only [List.getElem_toArray, List.getElem_cons_zero, List.getElem_cons_succ, Act.put, List.setIfInBounds_toArray, List.set_cons_zero, List.set_cons_succ]
             refine wpAnyH_take (i := 39) (v := ?_) rfl (by kernel_rfl) (by kernel_rfl) (by kernel_rfl) (fun _ _ _ h => h) (Or.inl ⟨by rfl, ?_⟩) (by assumption) ?_
             rotate_left
             · (intro w hSw; (try dsimp only at hSw); simp only [List.getElem_toArray, List.getElem_cons_zero, List.getElem_cons_succ]; go_simp; (first | done | with_reducible rfl))
             simp only [List.getElem_toArray, List.getElem_cons_zero, List.getElem_cons_succ, Act.put, List.setIfInBounds_toArray, List.set_cons_zero, List.set_cons_succ]
             refine wpAnyH_take (i := 40) (v := ?_) rfl (by kernel_rfl) (by kernel_rfl) (by kernel_rfl) (fun _ _ _ h => h) (Or.inl ⟨by rfl, ?_⟩) (by assumption) ?_
             rotate_left
             · (intro w hSw; (try dsimp only at hSw); simp only [List.getElem_toArray, List.getElem_cons_zero, List.getElem_cons_succ]; go_simp; (first | done | with_reducible rfl))
             simp only [List.getElem_toArray, List.getElem_cons_zero, List.getElem_cons_succ, Act.put, List.setIfInBounds_toArray, List.set_cons_zero, List.set_cons_succ]
             refine wpAnyH_take (i := 41) (v := ?_) rfl (by kernel_rfl) (by kernel_rfl) (by kernel_rfl) (fun _ _ _ h => h) (Or.inl ⟨by rfl, ?_⟩) (by assumption) ?_
             rotate_left
             · (intro w hSw; (try dsimp only at hSw); simp only [List.getElem_toArray, List.getElem_cons_zero, List.getElem_cons_succ]; go_simp; (first | done | with_reducible rfl))
             simp only [List.getElem_toArray, List.getElem_cons_zero, List.getElem_cons_succ, Act.put, List.setIfInBounds_toArray, List.set_cons_zero, List.set_cons_succ]
             refine wpAnyH_take (i := 42) (v := ?_) rfl (by kernel_rfl) (by kernel_rfl) (by kernel_rfl) (fun _ _ _ h => h) (Or.inl ⟨by rfl, ?_⟩) (by assumption) ?_
             rotate_left
             · (intro w hSw; (try dsimp only at hSw); simp only [List.getElem_toArray, List.getElem_cons_zero, List.getElem_cons_succ]; go_simp; (first | done | with_reducible rfl))
             simp only [List.getElem_toArray, List.getElem_cons_zero, List.getElem_cons_succ, Act.put, List.setIfInBounds_toArray, List.set_cons_zero, List.set_cons_succ]
             refine wpAnyH_take (i := 43) (v := ?_) rfl (by kernel_rfl) (by kernel_rfl) (by kernel_rfl) (fun _ _ _ h => h) (Or.inl ⟨by rfl, ?_⟩) (by assumption) ?_
             rotate_left
             · (intro w hSw; (try dsimp only at hSw); simp only [List.getElem_toArray, List.getElem_cons_zero, List.getElem_cons_succ]; go_simp; (first | done | with_reducible rfl))
             simp only [List.getElem_toArray, List.getElem_cons_zero, List.getElem_cons_succ, Act.put, List.setIfInBounds_toArray, List.set_cons_zero, List.set_cons_succ]
             refine wpAnyH_take (i := 44) (v := ?_) rfl (by kernel_rfl) (by kernel_rfl) (by kernel_rfl) (fun _ _ _ h => h) (Or.inl ⟨by rfl, ?_⟩) (by assumption) ?_
             rotate_left
             · (intro w hSw; (try dsimp only at hSw); simp only [List.getElem_toArray, List.getElem_cons_zero, List.getElem_cons_succ]; go_simp; (first | done | with_reducible rfl))
             simp only [List.getElem_toArray, List.getElem_cons_zero, List.getElem_cons_succ, Act.put, List.setIfInBounds_toArray, List.set_cons_zero, List.set_cons_succ]
             refine wpAnyH_take (i := 45) (v := ?_) rfl (by kernel_rfl) (by kernel_rfl) (by kernel_rfl) (fun _ _ _ h => h) (Or.inl ⟨by rfl, ?_⟩) (by assumption) ?_
             rotate_left
             · (intro w hSw; (try dsimp only at hSw); simp only [List.getElem_toArray, List.getElem_cons_zero, List.getElem_cons_succ]; go_simp; (first | done | with_reducible rfl))
             simp only [List.getElem_toArray, List.getElem_cons_zero, List.getElem_cons_succ, Act.put, List.setIfInBounds_toArray, List.set_cons_zero, List.set_cons_succ]
             refine wpAnyH_take (i := 46) (v := ?_) rfl (by kernel_rfl) (by kernel_rfl) (by kernel_rfl) (fun _ _ _ h => h) (Or.inl ⟨by rfl, ?_⟩) (by assumption) ?_
             rotate_left
             · (intro w hSw; (try dsimp only at hSw); simp only [List.getElem_toArray, List.getElem_cons_zero, List.getElem_cons_succ]; go_simp; (first | done | with_reducible rfl))
             simp only [List.getElem_toArray, List.getElem_cons_zero, List.getElem_cons_succ, Act.put, List.setIfInBounds_toArray, List.set_cons_zero, List.set_cons_succ]
             refine wpAnyH_take (i := 47) (v := ?_) rfl (by kernel_rfl) (by kernel_rfl) (by kernel_rfl) (fun _ _ _ h => h) (Or.inl ⟨by rfl, ?_⟩) (by assumption) ?_
             rotate_left
             · (intro w hSw; (try dsimp only at hSw); simp only [List.getElem_toArray, List.getElem_cons_zero, List.getElem_cons_succ]; go_simp; (first | done | with_reducible rfl))
             simp only [List.getElem_toArray, List.getElem_cons_zero, List.getElem_cons_succ, Act.put, List.setIfInBounds_toArray, List.set_cons_zero, List.set_cons_succ]
             refine wpAnyH_take (i := 48) (v := ?_) rfl (by kernel_rfl) (by kernel_rfl) (by kernel_rfl) (fun _ _ _ h => h) (Or.inl ⟨by rfl, ?_⟩) (by assumption) ?_
             rotate_left
             · (intro w hSw; (try dsimp only at hSw); simp only [List.getElem_toArray, List.getElem_cons_zero, List.getElem_cons_succ]; go_simp; (first | done | with_reducible rfl))
             simp only [List.getElem_toArray, List.getElem_cons_zero, List.getElem_cons_succ, Act.put, List.setIfInBounds_toArray, List.set_cons_zero, List.set_cons_succ]
             refine wpAnyH_take (i := 49) (v := ?_) rfl (by kernel_rfl) (by kernel_rfl) (by kernel_rfl) (fun _ _ _ h => h) (Or.inl ⟨by rfl, ?_⟩) (by assumption) ?_
             rotate_left
             · (intro w hSw; (try dsimp only at hSw); simp only [List.getElem_toArray, List.getElem_cons_zero, List.getElem_cons_succ]; go_simp; (first | done | with_reducible rfl))
             simp only [List.getElem_toArray, List.getElem_cons_zero, List.getElem_cons_succ, Act.put, List.setIfInBounds_toArray, List.set_cons_zero, List.set_cons_succ]
             refine wpAnyH_take (i := 51) (v := ?_) rfl (by kernel_rfl) (by kernel_rfl) (by kernel_rfl) (fun _ _ _ h => h) (Or.inl ⟨by rfl, ?_⟩) (by assumption) ?_
             rotate_left
             · (intro w hSw; (try dsimp only at hSw); simp only [List.getElem_toArray, List.getElem_cons_zero, List.getElem_cons_succ]; go_simp; (first | done | with_reducible rfl))
             simp only [List.getElem_toArray, List.getElem_cons_zero, List.getElem_cons_succ, Act.put, List.setIfInBounds_toArray, List.set_cons_zero, List.set_cons_succ]
             refine wpAnyH_take (i := 52) (v := ?_) rfl (by kernel_rfl) (by kernel_rfl) (by kernel_rfl) (fun _ _ _ h => h) (Or.inl ⟨by rfl, ?_⟩) (by assumption) ?_
             rotate_left
             · (intro w hSw; (try dsimp only at hSw); simp only [List.getElem_toArray, List.getElem_cons_zero, List.getElem_cons_succ]; go_simp; (first | done | with_reducible rfl))
             simp only [List.getElem_toArray, List.getElem_cons_zero, List.getElem_cons_succ, Act.put, List.setIfInBounds_toArray, List.set_cons_zero, List.set_cons_succ]
             refine wpAnyH_take (i := 53) (v := ?_) rfl (by kernel_rfl) (by kernel_rfl) (by kernel_rfl) (fun _ _ _ h => h) (Or.inl ⟨by rfl, ?_⟩) (by assumption) ?_
             rotate_left
             · (intro w hSw; (try dsimp only at hSw); simp only [List.getElem_toArray, List.getElem_cons_zero, List.getElem_cons_succ]; go_simp; (first | done | with_reducible rfl))
             simp only [List.getElem_toArray, List.getElem_cons_zero, List.getElem_cons_succ, Act.put, List.setIfInBounds_toArray, List.set_cons_zero, List.set_cons_succ]
             refine wpAnyH_ready (rs := [50]) (by kernel_rfl) (by simp) ?_
             refine AllReadyH.cons rfl (fun K hK => ?_) ?_
             rotate_left
             · exact AllReadyH.nil
             go_simp
             go_at_call 28; refine (origins19 a L A _ (H8.out.quiet (by (repeat (first | with_reducible exact HKg.out | with_reducible refine Keeps.drewN ?_ _ | with_reducible refine Keeps.drew ?_ | with_reducible refine Keeps.alloc ?_ _)))) HM2.out).mono ?_; rintro e wh ⟨vo, rfl, hro, hol2, kh⟩
             refine hK.out _ _ ?_ (fun hHeld => ?_)
             · exact (HPS.out _ (by (repeat (first | with_reducible exact Keeps.refl _ _ | with_reducible refine Keeps.drewN ?_ _ | with_reducible refine Keeps.drew ?_ | with_reducible refine Keeps.alloc ?_ _ | with_reducible refine Keeps.trans ?_ kh | with_reducible refine Keeps.trans ?_ kk | with_reducible refine Keeps.trans ?_ kc))))
             clear hK K
             try dsimp only [Act.put, List.setIfInBounds_toArray, List.set_cons_zero, List.set_cons_succ]
             refine wpAnyH_ready (rs := [54]) (by kernel_rfl) (by simp) ?_
             refine AllReadyH.cons rfl (fun K hK => ?_) ?_
             rotate_left
             · exact AllReadyH.nil
             go_simp
             go_at_call 27; refine (rcontains vo _ xo _ (hro.refs.keeps (S := fun _ => False) (by (repeat (first | with_reducible exact Keeps.refl _ _ | with_reducible refine Keeps.drewN ?_ _ | with_reducible refine Keeps.drew ?_ | with_reducible refine Keeps.alloc ?_ _))) (fun _ _ h => h)) (by omega)).mono ?_; rw [HMO.out]; rintro e wk ⟨rfl, kk⟩
             refine hK.out _ _ ?_ (fun hHeld => ?_)
             · exact (HPS.out _ (by (repeat (first | with_reducible exact Keeps.refl _ _ | with_reducible refine Keeps.drewN ?_ _ | with_reducible refine Keeps.drew ?_ | with_reducible refine Keeps.alloc ?_ _ | with_reducible refine Keeps.trans ?_ kh | with_reducible refine Keeps.trans ?_ kk | with_reducible refine Keeps.trans ?_ kc))))
             clear hK K
             try dsimp only [Act.put, List.setIfInBounds_toArray, List.set_cons_zero, List.set_cons_succ]
             refine wpAnyH_take (i := 55) (v := ?_) rfl (by kernel_rfl) (by kernel_rfl) (by kernel_rfl) (fun _ _ _ h => h) (Or.inl ⟨by rfl, ?_⟩) (by assumption) ?_
             rotate_left
             · (intro w hSw; (try dsimp only at hSw); simp only [List.getElem_toArray, List.getElem_cons_zero, List.getElem_cons_succ]; go_simp; (first | done | with_reducible rfl))
             simp only [List.getElem_toArray, List.getElem_cons_zero, List.getElem_cons_succ, Act.put, List.setIfInBounds_toArray, List.set_cons_zero, List.set_cons_succ]
             refine wpAnyH_take (i := 56) (v := ?_) rfl (by kernel_rfl) (by kernel_rfl) (by kernel_rfl) (fun _ _ _ h => h) (Or.inl ⟨by rfl, ?_⟩) (by assumption) ?_
             rotate_left
             · (intro w hSw; (try dsimp only at hSw); simp only [List.getElem_toArray, List.getElem_cons_zero, List.getElem_cons_succ]; go_simp; (first | done | with_reducible rfl))
             simp only [List.getElem_toArray, List.getElem_cons_zero, List.getElem_cons_succ, Act.put, List.setIfInBounds_toArray, List.set_cons_zero, List.set_cons_succ]
             refine wpAnyH_take (i := 57) (v := ?_) rfl (by kernel_rfl) (by kernel_rfl) (by kernel_rfl) (fun _ _ _ h => h) (Or.inl ⟨by rfl, ?_⟩) (by assumption) ?_
             rotate_left
             · (intro w hSw; (try dsimp only at hSw); simp only [List.getElem_toArray, List.getElem_cons_zero, List.getElem_cons_succ]; go_simp; (first | done | with_reducible rfl))
             simp only [List.getElem_toArray, List.getElem_cons_zero, List.getElem_cons_succ, Act.put, List.setIfInBounds_toArray, List.set_cons_zero, List.set_cons_succ]
             refine wpAnyH_take (i := 58) (v := ?_) rfl (by kernel_rfl) (by kernel_rfl) (by kernel_rfl) (fun _ _ _ h => h) (Or.inl ⟨by rfl, ?_⟩) (by assumption) ?_
             rotate_left
             · (intro w hSw; (try dsimp only at hSw); simp only [List.getElem_toArray, List.getElem_cons_zero, List.getElem_cons_succ]; go_simp; (first | done | with_reducible rfl))
             simp only [List.getElem_toArray, List.getElem_cons_zero, List.getElem_cons_succ, Act.put, List.setIfInBounds_toArray, List.set_cons_zero, List.set_cons_succ]
             refine wpAnyH_take (i := 59) (v := ?_) rfl (by kernel_rfl) (by kernel_rfl) (by kernel_rfl) (fun _ _ _ h => h) (Or.inl ⟨by rfl, ?_⟩) (by assumption) ?_
             rotate_left
             · (intro w hSw; (try dsimp only at hSw); simp only [List.getElem_toArray, List.getElem_cons_zero, List.getElem_cons_succ]; go_simp; (first | done | with_reducible rfl))
             simp only [List.getElem_toArray, List.getElem_cons_zero, List.getElem_cons_succ, Act.put, List.setIfInBounds_toArray, List.set_cons_zero, List.set_cons_succ]
             refine wpAnyH_ready (rs := [60]) (by kernel_rfl) (by simp) ?_
             refine AllReadyH.cons rfl (fun K hK => ?_) ?_
             rotate_left
             · exact AllReadyH.nil
             go_simp
             go_at_call 27; refine (rcontains _ C r _ ((RC8.out.keeps HKg.out (fun _ _ h => h)).keeps (S := fun _ => False) (by (repeat (first | with_reducible exact Keeps.refl _ _ | with_reducible refine Keeps.drewN ?_ _ | with_reducible refine Keeps.drew ?_ | with_reducible refine Keeps.alloc ?_ _ | with_reducible refine Keeps.trans ?_ kh | with_reducible refine Keeps.trans ?_ kk))) (fun _ _ h => h)) (by omega)).mono ?_; rw [HMC.out]; rintro e wc2 ⟨rfl, kc⟩
             refine hK.out _ _ ?_ (fun hHeld => ?_)
             · exact (HPS.out _ (by (repeat (first | with_reducible exact Keeps.refl _ _ | with_reducible refine Keeps.drewN ?_ _ | with_reducible refine Keeps.drew ?_ | with_reducible refine Keeps.alloc ?_ _ | with_reducible refine Keeps.trans ?_ kh | with_reducible refine Keeps.trans ?_ kk | with_reducible refine Keeps.trans ?_ kc))))
             clear hK K
             try dsimp only [Act.put, List.setIfInBounds_toArray, List.set_cons_zero, List.set_cons_succ]
             refine wpAnyH_take (i := 61) (v := ?_) rfl (by kernel_rfl) (by kernel_rfl) (by kernel_rfl) (fun _ _ _ h => h) (Or.inl ⟨by rfl, ?_⟩) (by assumption) ?_
             rotate_left
             · (intro w hSw; (try dsimp only at hSw); simp only [List.getElem_toArray, List.getElem_cons_zero, List.getElem_cons_succ]; go_simp; (first | done | with_reducible rfl))
             simp only [List.getElem_toArray, List.getElem_cons_zero, List.getElem_cons_succ, Act.put, List.setIfInBounds_toArray, List.set_cons_zero, List.set_cons_succ]
             refine wpAnyH_done (by kernel_rfl) ?_ _
             refine NoPanic.normal ?_
             all_goals
               go_wp2_with fail
               go_meet
               exact ⟨rfl, hid (by (repeat (first | with_reducible exact Keeps.refl _ _ | with_reducible refine Keeps.drewN ?_ _ | with_reducible refine Keeps.drew ?_ | with_reducible refine Keeps.alloc ?_ _ | with_reducible refine Keeps.trans ?_ kh | with_reducible refine Keeps.trans ?_ kk | with_reducible refine Keeps.trans ?_ kc)))⟩
           · obtain ⟨q, hq⟩ : ∃ q, D[k]? = some q := ⟨_, List.getElem?_eq_getElem (by omega)⟩
             have hqs : q.s < r.s := HSL.out k q r hq HR.out
             have hqs2 : ¬ r.s ≤ q.s := by omega
             have hkp : (0 : Int) < (k : Int) + 1 := by omega
             have hk0 : (0 : Int) ≤ (k : Int) := by omega
             have hkd : (k : Int) < (D.length : Int) := by omega
             have hkw : IntKind.i64.wrap (k : Int) = (k : Int) := IntWalk.i64_in _ (by omega)
             have hkw2 : IntKind.i64.wrap ((k : Int) + 1 - 1) = (k : Int) := by rw [Int.add_sub_cancel]; exact hkw
             have HPT := hid (show ∀ W, Keeps (fun _ => False) wg W → (W.cell? ⟨g, k * 2, none⟩ = some (.int .i64 q.s) ∧ W.cell? ⟨Y, 0, none⟩ = some (.int .i64 r.s) ∧ W.cell? ⟨Y, 1, none⟩ = some (.int .u32 r.g) ∧ W.cell? ⟨gw, d * 2, none⟩ = some (.int .i64 r.s) ∧ W.cell? ⟨gw, d * 2 + 1, none⟩ = some (.int .u32 r.g) ∧ W.cell? ⟨gw, 0, none⟩ = some (.int .i64 xo.s) ∧ W.cell? ⟨gw, 1, none⟩ = some (.int .u32 xo.g)) from fun W hk => by
               obtain ⟨g1, hg1, b0, b1⟩ := (RD8.out.keeps (HKg.out.trans hk) (fun _ _ h => h)).cellk hq
               injection hg1 with hg1; injection hg1 with hg1
               subst hg1
               exact ⟨b0, HPS.out W hk⟩)
             clear hq
             go_region_held3 (fun W => W.cell? ⟨g, k * 2, none⟩ = some (.int .i64 q.s) ∧ W.cell? ⟨Y, 0, none⟩ = some (.int .i64 r.s) ∧ W.cell? ⟨Y, 1, none⟩ = some (.int .u32 r.g) ∧ W.cell? ⟨gw, d * 2, none⟩ = some (.int .i64 r.s) ∧ W.cell? ⟨gw, d * 2 + 1, none⟩ = some (.int .u32 r.g) ∧ W.cell? ⟨gw, 0, none⟩ = some (.int .i64 xo.s) ∧ W.cell? ⟨gw, 1, none⟩ = some (.int .u32 xo.g))
               ((refine HPT.out _ ?_; (repeat (first | with_reducible exact Keeps.refl _ _ | with_reducible refine Keeps.drewN ?_ _ | with_reducible refine Keeps.drew ?_ | with_reducible refine Keeps.alloc ?_ _ | with_reducible refine Keeps.trans ?_ kh | with_reducible refine Keeps.trans ?_ kk | with_reducible refine Keeps.trans ?_ kc))))
               (first
                 | (go_at_call 28; refine (origins19 a L A _ (H8.out.quiet (by (repeat (first | with_reducible exact HKg.out | with_reducible refine Keeps.drewN ?_ _ | with_reducible refine Keeps.drew ?_ | with_reducible refine Keeps.alloc ?_ _)))) HM2.out).mono ?_; rintro e wh ⟨vo, rfl, hro, hol2, kh⟩)
                 | (go_at_call 27; refine (rcontains vo _ xo _ (hro.refs.keeps (S := fun _ => False) (by (repeat (first | with_reducible exact Keeps.refl _ _ | with_reducible refine Keeps.drewN ?_ _ | with_reducible refine Keeps.drew ?_ | with_reducible refine Keeps.alloc ?_ _))) (fun _ _ h => h)) (by omega)).mono ?_; rw [HMO.out]; rintro e wk ⟨rfl, kk⟩)
                 | (go_at_call 27; refine (rcontains _ C r _ ((RC8.out.keeps HKg.out (fun _ _ h => h)).keeps (S := fun _ => False) (by (repeat (first | with_reducible exact Keeps.refl _ _ | with_reducible refine Keeps.drewN ?_ _ | with_reducible refine Keeps.drew ?_ | with_reducible refine Keeps.alloc ?_ _ | with_reducible refine Keeps.trans ?_ kh | with_reducible refine Keeps.trans ?_ kk))) (fun _ _ h => h)) (by omega)).mono ?_; rw [HMC.out]; rintro e wc2 ⟨rfl, kc⟩))
             all_goals
               go_wp2_with fail
               go_meet
               exact ⟨rfl, hid (by (repeat (first | with_reducible exact Keeps.refl _ _ | with_reducible refine Keeps.drewN ?_ _ | with_reducible refine Keeps.drew ?_ | with_reducible refine Keeps.alloc ?_ _ | with_reducible refine Keeps.trans ?_ kh | with_reducible refine Keeps.trans ?_ kk | with_reducible refine Keeps.trans ?_ kc)))⟩
          case rest =>
          obtain ⟨rfl, HKc⟩ := hcut
          obtain ⟨wv, hwv⟩ : ∃ wv, wc = wv := ⟨_, rfl⟩
          rw [hwv] at HKc ⊢
          have HKv := hid (HKg.out.trans HKc.out); have RWv := hid (RWg.out.keeps HKc.out (fun _ _ h => h))
          clear hwv HKg HQg RWg HKc HPS HXO HWE HMO HMC hneq
          go_wp2_with fail
          go_loopw [21] (fun ix wr => ∃ m : Nat, m ≤ d ∧ ix = .int .i64 ((m : Int) + 1) ∧ Hid (Keeps (fun _ => False) wv wr)) (fun ix _ => d + 1 - (intOf ix).toNat)
          case atStart => exact ⟨0, by omega, rfl, hid (Keeps.refl _ _)⟩
          case round =>
            obtain ⟨m, hm, rfl, HKI⟩ := hrel
            have hm0 : (0 : Int) ≤ (m : Int) := by omega
            by_cases hml : m < d
            · obtain ⟨x, hx⟩ : ∃ x, wl[m]? = some x := ⟨_, List.getElem?_eq_getElem (by rw [HWL.out]; omega)⟩
              obtain ⟨y, hy⟩ : ∃ y, wl[m + 1]? = some y := ⟨_, List.getElem?_eq_getElem (by rw [HWL.out]; omega)⟩
              have hml' : (m : Int) + 1 < (d : Int) + 1 := by omega
              have hm1 : (m : Int) < (d : Int) + 1 := by omega
              have hm2 : (0 : Int) ≤ (m : Int) + 1 := by omega
              have hmw : IntKind.i64.wrap (m : Int) = (m : Int) := IntWalk.i64_in _ (by omega)
              have hmw2 : IntKind.i64.wrap ((m : Int) + 1 - 1) = (m : Int) := by rw [Int.add_sub_cancel]; exact hmw
              have hmw3 : IntKind.i64.wrap ((m : Int) + 1 + 1) = (m : Int) + 1 + 1 := IntWalk.i64_in _ (by omega)
              have hmt : ((m : Int) + 1).toNat = m + 1 := by omega
              have HCH := hid (fun W (hk : Keeps (fun _ => False) w8 W) => child19 bh th A.H x y W (HH8.out.keeps hk (fun h => h) (fun h => h)) (HWK.out m x y hx hy))
              have HPS := hid (show ∀ W, Keeps (fun _ => False) wr W → (W.cell? ⟨gw, m * 2, none⟩ = some (.int .i64 x.s) ∧ W.cell? ⟨gw, m * 2 + 1, none⟩ = some (.int .u32 x.g) ∧ W.cell? ⟨gw, (m + 1) * 2, none⟩ = some (.int .i64 y.s) ∧ W.cell? ⟨gw, (m + 1) * 2 + 1, none⟩ = some (.int .u32 y.g)) from fun W hk => by
                obtain ⟨g1, hg1, b0, b1⟩ := (RWv.out.keeps (HKI.out.trans hk) (fun _ _ h => h)).cellk hx
                obtain ⟨g2, hg2, c0, c1⟩ := (RWv.out.keeps (HKI.out.trans hk) (fun _ _ h => h)).cellk hy
                injection hg1 with hg1; injection hg1 with hg1
                injection hg2 with hg2; injection hg2 with hg2
                subst hg1
                subst hg2
                exact ⟨b0, b1, c0, c1⟩)
              clear hx hy
              go_upto_region 26 with (fail)
              go_region_held3 (fun W => W.cell? ⟨gw, m * 2, none⟩ = some (.int .i64 x.s) ∧ W.cell? ⟨gw, m * 2 + 1, none⟩ = some (.int .u32 x.g) ∧ W.cell? ⟨gw, (m + 1) * 2, none⟩ = some (.int .i64 y.s) ∧ W.cell? ⟨gw, (m + 1) * 2 + 1, none⟩ = some (.int .u32 y.g))
                ((refine HPS.out _ ?_; (repeat (first | with_reducible exact Keeps.refl _ _ | with_reducible refine Keeps.drewN ?_ _ | with_reducible refine Keeps.drew ?_ | with_reducible refine Keeps.alloc ?_ _ | with_reducible refine Keeps.trans ?_ kc))))
                (first
                  | (go_at_call 32; refine (HCH.out _ (HKv.out.trans (HKI.out.trans (by (repeat (first | with_reducible exact Keeps.refl _ _ | with_reducible refine Keeps.drewN ?_ _ | with_reducible refine Keeps.drew ?_ | with_reducible refine Keeps.alloc ?_ _)))))).mono ?_; rintro e wc2 ⟨rfl, kc⟩))
              all_goals
                go_wp2_with fail
                exact ⟨⟨m + 1, by omega, by go_num, hid (by (repeat (first | with_reducible exact HKI.out | with_reducible refine Keeps.drewN ?_ _ | with_reducible refine Keeps.drew ?_ | with_reducible refine Keeps.alloc ?_ _ | with_reducible refine Keeps.trans ?_ kc)))⟩, by simp [intOf]; omega⟩
            · have hml' : ¬ (m : Int) + 1 < (d : Int) + 1 := by omega
              have HKz := hid (HKv.out.trans HKI.out)
              clear hml hm hm0 HKI HKv RWv
              go_wp2_with fail
              exact ⟨⟨j + 1, by omega, by go_num, HKz⟩, by simp [intOf]; omega⟩
        · have hlt' : ¬ (j : Int) < (D.length : Int) := by omega
          obtain ⟨w9, rfl⟩ : ∃ w9 : World, w9 = wr := ⟨_, rfl⟩
          have H9 := hid (H8.out.quiet HKR.out); have HH9 := hid (HH8.out.keeps HKR.out (fun h => h) (fun h => h)); have RC9 := hid (RC8.out.keeps HKR.out (fun _ _ h => h))
          clear hlt hj hj0 HKR H8 HH8 RD8 RC8
          go_wp2_with fail
          clear hlt'
          go_loopw [191] (fun ix wr => ∃ j : Nat, j ≤ C.length ∧ ix = .int .i64 j ∧ Hid (Keeps (fun _ => False) w9 wr)) (fun ix _ => C.length - (intOf ix).toNat)
          case atStart => exact ⟨0, by omega, rfl, hid (Keeps.refl _ _)⟩
          case round =>
            obtain ⟨j, hj, rfl, HKR⟩ := hrel
            have hj0 : (0 : Int) ≤ j := by omega
            by_cases hlt : j < C.length
            · obtain ⟨r, hr⟩ : ∃ r, C[j]? = some r := ⟨_, List.getElem?_eq_getElem hlt⟩
              have hlt' : (j : Int) < (C.length : Int) := by omega
              obtain ⟨hth, hnr⟩ := (HCM.out r).1 (List.mem_of_getElem? hr)
              have hnk : r ∉ A.rq.keys := fun h => hnr ((HRI.out r).1 h)
              have hck : ckV A.H.T r.s r.g = 0 := hth
              have hwl : A.wayL r = [] := by unfold Ar.wayL wayQ; rw [if_neg hnk]
              have hwf : r.Wf := there_wf HOK.out hth
              obtain ⟨g, rfl, d0, d1⟩ := (RC9.out.keeps HKR.out (fun _ _ h => h)).cellk hr
              have ka : Keeps (fun _ => False) w9 (wr.alloc (.cells #[.int .i64 r.s, .int .u32 r.g] 24)) := HKR.out.alloc _
              have HIS := hid (is_ok a L A r _ (H9.out.quiet ka).ar HOK.out hwf)
              rw [hck, decide_eq_false hnk] at HIS
              have HPA := hid (fun W (h : Ay w.heap.size w W a L A) => path_ok a L A r W h.ar HOK.out hwf)
              rw [hck, decide_eq_false hnk, hwl] at HPA
              have HHS := hid (fun W (hk : Keeps (fun _ => False) w9 W) => hhas_any bh th A.H r.s r.g W (HH9.out.keeps hk (fun h => h) (fun h => h)))
              rw [hck] at HHS
              have HKA := hid ka; have HQA := hid (alloc_new (w := wr) (o := .cells #[.int .i64 r.s, .int .u32 r.g] 24))
              clear hr ka hth hnr hnk hck hwl hwf
              go_wp2_with fail
              refine HIS.out.mono ?_
              rintro e wx ⟨rfl, kx⟩
              have HKX := hid (HKA.out.trans kx); have HQX := hid (block_keep HQA.out kx (fun h => h))
              clear kx d0 d1 HIS HKA HQA
              obtain ⟨y0, y1, _, yl⟩ := cells2 HQX.out
              go_wp2_with fail
              refine (HPA.out _ (H9.out.quiet HKX.out)).mono ?_
              rintro e wy ⟨vy, rfl, hry, ky⟩
              obtain ⟨py, cy, rfl⟩ := hry.refs.slice
              rw [List.length_nil]
              have HKY := hid (HKX.out.trans ky); have HQY := hid (block_keep HQX.out ky (fun h => h))
              clear ky hry y0 y1 yl HKX HQX HPA
              obtain ⟨y0, y1, _, yl⟩ := cells2 HQY.out
              go_wp2_with fail
              refine (HHS.out _ HKY.out).mono ?_
              rintro e wz ⟨rfl, kz⟩
              have HKZ := hid (HKY.out.trans kz)
              clear kz y0 y1 yl HKY HQY HHS
              go_wp2_with fail
              exact ⟨⟨j + 1, by omega, by go_num, HKZ⟩, by simp [intOf]; omega⟩
            · have hlt' : ¬ (j : Int) < (C.length : Int) := by omega
              have HX := hid (H9.out.quiet HKR.out); have HHX := hid (HH9.out.keeps HKR.out (fun h => h) (fun h => h))
              clear hlt hj hj0 HKR H9 HH9 RC9
              go_wp2_with fail
              refine (aheap_ok a L A _ HX.out.ar).mono ?_
              rintro e wA ⟨bA, tA, rfl, kA, _, _, hhA⟩
              have HXA := hid (HX.out.quiet kA); have HHA := hid (HHX.out.keeps kA (fun h => h) (fun h => h)); have HHB := hid hhA
              clear kA hhA HX HHX
              go_wp2_with fail
              refine (hall_ok bA tA A.H wA HHB.out).mono ?_
              rintro e wB ⟨vB, rfl, hrB, kB⟩
              rw [HT.out] at hrB
              have HXB := hid (HXA.out.quiet kB); have HHC := hid (HHA.out.keeps kB (fun h => h) (fun h => h)); have RB := hid hrB.refs
              clear kB hrB HXA HHA HHB
              go_wp2_with fail
              refine (hall_ok bh th A.H wB HHC.out).mono ?_
              rintro e wC ⟨vC, rfl, hrC, kC⟩
              rw [HT.out] at hrC
              have HXC := hid (HXB.out.quiet kC)
              have HEQ := hid (requal vB vC T T wC (RB.out.keeps kC (fun _ _ h => h)) hrC.refs (by omega))
              rw [decide_eq_true rfl] at HEQ
              clear kC hrC HXB HHC RB
              go_wp2_with fail
              refine HEQ.out.mono ?_
              rintro e wD ⟨rfl, kD⟩
              have HXD := hid (HXC.out.quiet kD)
              clear kD HXC HEQ
              go_wp2_with fail
              refine (works19 wD).mono ?_
              rintro e wE ⟨rfl, kE⟩
              have HXE := hid (HXD.out.quiet kE)
              clear kE HXD
              go_wp2_with fail
              go_ret
              exact ⟨rfl, HXE.out.k.fresh⟩
set_option maxRecDepth 100000 in
theorem reachLeast_law {H : Type} {enc : TypeId × Value → H} {base : Nat} {spare : Nat → Bool} {held : Bool} {r : Reach} {b0 : Nat}
    (v0 : Value) (d0 : DataW H) (p0 : List MemPlace) {w : World} (hv0 : Value.okWide Tryz.prog w r b0 56 v0) (h0 : DataW.Trod enc Tryz.prog w base spare held 56 v0 d0 p0)
    (w' : World) (e' : w' = w) :
    Calls Tryz.prog 5 #[v0] w' fun e w2 => e = .returned (.bool true) ∧ Keeps (fun _ => False) w' w2 := by
  subst e'
  obtain ⟨a, n, k, rfl, e1, e2, hx⟩ := open_flat_slice (ks := ks19) Tryz.underlying56 (by kernel_rfl) (by kernel_rfl) (by decide) hv0 h0
  obtain ⟨l, hl⟩ := mvrow19_of e1 e2 hx
  exact reachLeast_walk _ l _ hl
end Go.Proofs.YtcpljmonmchloaaGreat
