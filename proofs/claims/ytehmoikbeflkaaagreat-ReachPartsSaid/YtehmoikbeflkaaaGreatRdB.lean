/- estraylaw19: ReachParts, the walk. -/
import Derived.Test.YtehmoikbeflkaaaGreatRdA
namespace Go.Proofs.YtehmoikbeflkaaaGreat
open Go.RowKit Go.ChangeShapes Go.WideShapes Go.ChangeAt Go.Deep
set_option linter.unusedVariables false
set_option linter.unusedSimpArgs false

set_option maxRecDepth 100000 in
set_option maxHeartbeats 4000000 in
theorem reachParts_walk (v1 v2 v3 : Value) (l : List Mv) (m1 m2 : List Nat) (w : World) (h1 : MvRow w v1 l) (h2 : ByRow w v2 m1) (h3 : ByRow w v3 m2) :
    Calls Tryz.prog 3 #[v1, v2, v3] w fun e w' => e = .returned (.bool true) ∧ Keeps (fun _ => False) w w' := by
  have HPL := hid (played19 v1 l w h1)
  have HR2 := hid (fun W (hk : Keeps (fun y => w.heap.size ≤ y) w W) => h2.keepsN hk)
  have HR3 := hid (fun W (hk : Keeps (fun y => w.heap.size ≤ y) w W) => h3.keepsN hk)
  obtain ⟨A, hA⟩ : ∃ A, (Sys.pl19 l).A = A := ⟨_, rfl⟩
  rw [hA] at HPL
  have epk : ∀ args w, (callFunc 18 args).run Tryz.prog w = .ok (.enter 18 args) w := enters_of Tryz.func18 (by kernel_rfl) rfl
  clear h1 h2 h3 hA
  go_enter Tryz.func3, Tryz.ntmps3
  go_wp2_with fail
  refine HPL.out.mono ?_
  rintro e w1 ⟨a, L, rfl, h1⟩
  have HA1 := hid h1
  clear h1 HPL
  go_wp2_with fail
  refine (aheap_ok a L A w1 HA1.out.ar).mono ?_
  rintro e w2 ⟨b, t, rfl, k2, _, _, hh⟩
  have HA2 := hid (HA1.out.quiet k2); have HH2 := hid hh
  clear k2 hh HA1
  go_wp2_with fail
  refine (hall_ok b t A.H w2 HH2.out).mono ?_
  rintro e w3 ⟨vt, rfl, hr3, k3⟩
  obtain ⟨T, hT⟩ : ∃ T, A.H.T.tk = T := ⟨_, rfl⟩
  have hTn := tk_len A.H.T
  have hn2 := HA2.out.ok.n2
  have HTM := hid (show ∀ r, r ∈ T → There A.H r from fun r hr => by rw [← hT] at hr; exact (tk_iff rfl).1 hr)
  have HZ := hid (fun r (hr : There A.H r) => There.nz HA2.out.ok hr)
  have HWF := hid (fun r (hr : There A.H r) => there_wf HA2.out.ok hr)
  rw [hT] at hr3 hTn
  have hTl : T.length ≤ 256 := by omega
  have hNl : A.H.T.n ≤ 256 := hn2
  obtain ⟨pt, ct, rfl⟩ := hr3.refs.slice
  obtain ⟨w4, hw4⟩ : ∃ w4, w3.alloc (.cells #[.slice pt T.length ct] 28) = w4 := ⟨_, rfl⟩
  have k4 : Keeps (fun _ => False) w3 w4 := by rw [← hw4]; exact (Keeps.refl _ _).alloc _
  obtain ⟨B, hB⟩ : ∃ B, w3.heap.size = B := ⟨_, rfl⟩
  have q4 : w4.heap[B]? = some (.cells #[.slice pt T.length ct] 28) := by rw [← hw4, ← hB]; exact alloc_new
  have HA4 := hid (HA2.out.quiet (k3.trans k4)); have HH4 := hid (HH2.out.keeps (k3.trans k4) (fun h => h) (fun h => h)); have RT4 := hid (hr3.refs.keeps k4 (fun _ _ h => h)); have Q4 := hid q4
  have HW4 := hid hw4; have HB := hid hB
  obtain ⟨t0, _, tl⟩ := cells1 q4
  clear hr3 k3 k4 q4 hw4 hB hT hTn hn2 HA2 HH2
  by_cases hz : T.length = 0
  · have hzi : ((T.length : Int) == 0) = true := by simp [hz]
    rw [hz] at HW4
    go_wp2_with fail
    rw [HW4.out]
    refine (works19 _).mono ?_
    rintro e w5 ⟨rfl, k5⟩
    go_wp2_with fail
    go_ret
    exact ⟨rfl, (HA4.out.quiet k5).k.fresh⟩
  have hzi : ((T.length : Int) == 0) = false := beq_eq_false_iff_ne.2 (by omega)
  have hTne : T ≠ [] := fun h => hz (by rw [h]; rfl)
  go_upto_region 9 with (fail)
  try rw [HW4.out]
  try rw [HB.out]
  clear t0
  have HK4 := hid HA4.out.k
  go_wp2_with fail
  refine (pick19 B v2 _ T m1 w4 (HR2.out _ HK4.out) Q4.out RT4.out hTne hTl).mono ?_
  rintro e w5 ⟨vp, rfl, hrp, k5⟩
  obtain ⟨P, hP⟩ : ∃ P, picked T m1 = P := ⟨_, rfl⟩
  have hpl := picked_len T m1
  have hpm := fun r (hr : r ∈ picked T m1) => HTM.out r (picked_mem hTne hr)
  rw [hP] at hrp hpl hpm
  obtain ⟨pp, cp, rfl⟩ := hrp.refs.slice
  have HA5 := hid (HA4.out.quiet k5); have RP5 := hid hrp.refs; have RT5 := hid (RT4.out.keeps k5 (fun _ _ h => h)); have Q5 := hid (block_keep Q4.out k5 (fun h => h)); have HPM := hid hpm; have HH5 := hid (HH4.out.keeps k5 (fun h => h) (fun h => h))
  clear hrp k5 hP hpm HA4 RT4 Q4 HH4 HK4
  have HK5 := hid HA5.out.k
  go_wp2_with fail
  refine (pick19 B v3 _ T m2 w5 (HR3.out _ HK5.out) Q5.out RT5.out hTne hTl).mono ?_
  rintro e w6 ⟨vq, rfl, hrq, k6⟩
  obtain ⟨Q, hQ⟩ : ∃ Q, picked T m2 = Q := ⟨_, rfl⟩
  have hql := picked_len T m2
  have hqm := fun r (hr : r ∈ picked T m2) => HTM.out r (picked_mem hTne hr)
  rw [hQ] at hrq hql hqm
  obtain ⟨pq, cq, rfl⟩ := hrq.refs.slice
  have HA6 := hid (HA5.out.quiet k6); have RQ6 := hid hrq.refs; have RP6 := hid (RP5.out.keeps k6 (fun _ _ h => h)); have RT6 := hid (RT5.out.keeps k6 (fun _ _ h => h)); have Q6 := hid (block_keep Q5.out k6 (fun h => h)); have HH6 := hid (HH5.out.keeps k6 (fun h => h) (fun h => h))
  have HPT := hid (Parts.of HZ.out HPM.out hqm)
  have HQM := hid hqm
  clear hrq k6 hQ hqm HA5 RP5 RT5 Q5 HH5 HK5
  have HWP := hid (fun r (hr : r ∈ P) => HWF.out r (HPM.out r hr)); have HWQ := hid (fun r (hr : r ∈ Q) => HWF.out r (HQM.out r hr))
  -- From of P
  have hfr := from_ok b t A.H _ P w6 HH6.out RP6.out HWP.out (by omega)
  rw [HPT.out.tp] at hfr
  have HFR := hid hfr
  clear hfr
  go_wp2_with fail
  refine HFR.out.mono ?_
  rintro e w7 ⟨vx, rfl, hrx, k7⟩
  obtain ⟨X, hX⟩ : ∃ X, fromL A.H P = X := ⟨_, rfl⟩
  obtain ⟨Y, hY⟩ : ∃ Y, fromL A.H Q = Y := ⟨_, rfl⟩
  obtain ⟨Z, hZ⟩ : ∃ Z, fromL A.H (P ++ ⟨0, 0⟩ :: Q) = Z := ⟨_, rfl⟩
  rw [hX] at hrx
  obtain ⟨px, cx, rfl⟩ := hrx.refs.slice
  have hpt := HPT.out
  have hlx := hpt.lx; have hly := hpt.ly; have hlb := hpt.lb
  rw [hX] at hlx; rw [hY] at hly; rw [hZ] at hlb
  have HX := hid hX; have HY := hid hY; have HZZ := hid hZ
  have HA7 := hid (HA6.out.quiet k7); have RX7 := hid hrx.refs; have RQ7 := hid (RQ6.out.keeps k7 (fun _ _ h => h)); have RP7 := hid (RP6.out.keeps k7 (fun _ _ h => h)); have RT7 := hid (RT6.out.keeps k7 (fun _ _ h => h)); have Q7 := hid (block_keep Q6.out k7 (fun h => h)); have HH7 := hid (HH6.out.keeps k7 (fun h => h) (fun h => h))
  clear hrx k7 hX hY hZ hpt HFR HA6 RQ6 RP6 RT6 Q6 HH6
  -- From of Q
  have hfr := from_ok b t A.H _ Q w7 HH7.out RQ7.out HWQ.out (by omega)
  rw [HPT.out.tq, HY.out] at hfr
  have HFR := hid hfr
  clear hfr
  go_wp2_with fail
  refine HFR.out.mono ?_
  rintro e w8 ⟨vy, rfl, hry, k8⟩
  obtain ⟨py, cy, rfl⟩ := hry.refs.slice
  have HA8 := hid (HA7.out.quiet k8); have RY8 := hid hry.refs; have RX8 := hid (RX7.out.keeps k8 (fun _ _ h => h)); have RQ8 := hid (RQ7.out.keeps k8 (fun _ _ h => h)); have RP8 := hid (RP7.out.keeps k8 (fun _ _ h => h)); have RT8 := hid (RT7.out.keeps k8 (fun _ _ h => h)); have Q8 := hid (block_keep Q7.out k8 (fun h => h)); have HH8 := hid (HH7.out.keeps k8 (fun h => h) (fun h => h))
  clear hry k8 HFR HA7 RX7 RQ7 RP7 RT7 Q7 HH7
  -- Concat and From
  obtain ⟨w9, hw9⟩ : ∃ w9, (w8.alloc (.cells #[.int .i64 0, .int .u32 0] 33)).alloc (.cells #[.slice pp P.length cp, .slice (some ⟨w8.heap.size, 0, none⟩) 1 1, .slice pq Q.length cq] 28) = w9 := ⟨_, rfl⟩
  have k9 : Keeps (fun _ => False) w8 w9 := by rw [← hw9]; exact ((Keeps.refl _ _).alloc _).alloc _
  have q9 : w9.heap[w8.heap.size + 1]? = some (.cells #[.slice pp P.length cp, .slice (some ⟨w8.heap.size, 0, none⟩) 1 1, .slice pq Q.length cq] 28) := by rw [← hw9]; exact alloc_new' (by simp)
  have z9 : Refs w9 (.slice (some ⟨w8.heap.size, 0, none⟩) 1 1) [⟨0, 0⟩] := by rw [← hw9]; exact (refs_one (x := ⟨0, 0⟩) alloc_new).keeps ((Keeps.refl (fun _ => False) _).alloc _) (fun _ _ h => h)
  have hrr : RRow w9 (w8.heap.size + 1) [(.slice pp P.length cp, P), (.slice (some ⟨w8.heap.size, 0, none⟩) 1 1, [⟨0, 0⟩]), (.slice pq Q.length cq, Q)] := ⟨q9, fun x hx => by
    rcases List.mem_cons.1 hx with rfl | hx
    · exact RP8.out.keeps k9 (fun _ _ h => h)
    rcases List.mem_cons.1 hx with rfl | hx
    · exact z9
    obtain rfl := List.mem_singleton.1 hx
    exact RQ8.out.keeps k9 (fun _ _ h => h)⟩
  have hct : cat [(.slice pp P.length cp, P), (.slice (some ⟨w8.heap.size, 0, none⟩) 1 1, [⟨0, 0⟩]), (.slice pq Q.length cq, Q)] = P ++ ⟨0, 0⟩ :: Q := by simp [cat]
  have hcl : (P ++ (⟨0, 0⟩ : Rf) :: Q).length ≤ 4096 := by simp; omega
  have htb := HPT.out.tb; have hzz := HZZ.out
  have hwb : ∀ r ∈ P ++ (⟨0, 0⟩ : Rf) :: Q, r.Wf := fun r hr => by
    rcases List.mem_append.1 hr with hr | hr
    · exact HWP.out r hr
    rcases List.mem_cons.1 hr with rfl | hr
    · exact ⟨by decide, by decide⟩
    · exact HWQ.out r hr
  obtain ⟨BB, hBB⟩ : ∃ BB, P ++ (⟨0, 0⟩ : Rf) :: Q = BB := ⟨_, rfl⟩
  rw [hBB] at hct hcl htb hzz hwb
  have HTB := hid htb; have HZB := hid hzz; have HWB := hid hwb
  clear hBB htb hzz hwb
  have hcc := concat_ok _ _ w9 hrr (by rw [hct]; exact hcl) (by simp)
  rw [hct] at hcc
  have HCC := hid hcc; have HW9 := hid hw9
  have HA9 := hid (HA8.out.quiet k9); have RY9 := hid (RY8.out.keeps k9 (fun _ _ h => h)); have RX9 := hid (RX8.out.keeps k9 (fun _ _ h => h)); have RP9 := hid (RP8.out.keeps k9 (fun _ _ h => h)); have RT9 := hid (RT8.out.keeps k9 (fun _ _ h => h)); have Q9 := hid (block_keep Q8.out k9 (fun h => h)); have HH9 := hid (HH8.out.keeps k9 (fun h => h) (fun h => h))
  clear q9 z9 hrr hct hcc hw9 k9 HA8 RY8 RX8 RQ8 RP8 RT8 Q8 HH8
  go_wp2_with fail
  rw [HW9.out]
  refine HCC.out.mono ?_
  rintro e w10 ⟨vb, rfl, hrb, k10⟩
  obtain ⟨pb, cb, rfl⟩ := hrb.refs.slice
  have HA10 := hid (HA9.out.quiet k10); have RB10 := hid hrb.refs; have RY10 := hid (RY9.out.keeps k10 (fun _ _ h => h)); have RX10 := hid (RX9.out.keeps k10 (fun _ _ h => h)); have RP10 := hid (RP9.out.keeps k10 (fun _ _ h => h)); have RT10 := hid (RT9.out.keeps k10 (fun _ _ h => h)); have Q10 := hid (block_keep Q9.out k10 (fun h => h)); have HH10 := hid (HH9.out.keeps k10 (fun h => h) (fun h => h))
  have hfr := from_ok b t A.H _ _ w10 HH10.out RB10.out HWB.out hcl
  rw [HTB.out, HZB.out] at hfr
  have HFR := hid hfr
  clear hfr hrb k10 HCC HW9 HA9 RY9 RX9 RP9 RT9 Q9 HH9
  go_wp2_with fail
  refine HFR.out.mono ?_
  rintro e w11 ⟨vz, rfl, hrz, k11⟩
  obtain ⟨pz, cz, rfl⟩ := hrz.refs.slice
  have HA11 := hid (HA10.out.quiet k11); have RZ11 := hid hrz.refs; have RY11 := hid (RY10.out.keeps k11 (fun _ _ h => h)); have RX11 := hid (RX10.out.keeps k11 (fun _ _ h => h)); have RP11 := hid (RP10.out.keeps k11 (fun _ _ h => h)); have RT11 := hid (RT10.out.keeps k11 (fun _ _ h => h)); have Q11 := hid (block_keep Q10.out k11 (fun h => h)); have HH11 := hid (HH10.out.keeps k11 (fun h => h) (fun h => h))
  have HWX := hid (fun r (hr : r ∈ X) => HWF.out r (HPT.out.wx r (by rw [HX.out]; exact hr)))
  have hfr := from_ok b t A.H _ X w11 HH11.out RX11.out HWX.out (by omega)
  have hag := HPT.out.again; have htx := HPT.out.tx; have hcz := HPT.out.closed
  rw [HX.out] at hag htx hcz
  rw [htx, hag] at hfr
  have HFR := hid hfr
  have HCZ := hid hcz; have HTX := hid htx
  clear hfr hrz k11 hag htx hcz HA10 RB10 RY10 RX10 RP10 RT10 Q10 HH10
  go_wp2_with fail
  refine HFR.out.mono ?_
  rintro e w12 ⟨va, rfl, hra, k12⟩
  obtain ⟨pa, ca, rfl⟩ := hra.refs.slice
  have HA12 := hid (HA11.out.quiet k12); have RA12 := hid hra.refs; have RZ12 := hid (RZ11.out.keeps k12 (fun _ _ h => h)); have RY12 := hid (RY11.out.keeps k12 (fun _ _ h => h)); have RX12 := hid (RX11.out.keeps k12 (fun _ _ h => h)); have RP12 := hid (RP11.out.keeps k12 (fun _ _ h => h)); have RT12 := hid (RT11.out.keeps k12 (fun _ _ h => h)); have Q12 := hid (block_keep Q11.out k12 (fun h => h)); have HH12 := hid (HH11.out.keeps k12 (fun h => h) (fun h => h))
  have hcc := closed_ok b t A.H _ X w12 HH12.out RX12.out HWX.out (by omega)
  rw [HTX.out, HCZ.out] at hcc
  have HCC := hid hcc
  clear hcc hra k12 HFR HA11 RZ11 RY11 RX11 RP11 RT11 Q11 HH11
  go_wp2_with fail
  refine HCC.out.mono ?_
  rintro e w13 ⟨rfl, k13⟩
  have HA13 := hid (HA12.out.quiet k13); have RA13 := hid (RA12.out.keeps k13 (fun _ _ h => h)); have RZ13 := hid (RZ12.out.keeps k13 (fun _ _ h => h)); have RY13 := hid (RY12.out.keeps k13 (fun _ _ h => h)); have RX13 := hid (RX12.out.keeps k13 (fun _ _ h => h)); have RP13 := hid (RP12.out.keeps k13 (fun _ _ h => h)); have RT13 := hid (RT12.out.keeps k13 (fun _ _ h => h)); have Q13 := hid (block_keep Q12.out k13 (fun h => h)); have HH13 := hid (HH12.out.keeps k13 (fun h => h) (fun h => h))
  have heq := requal _ _ X X w13 RA13.out RX13.out (by omega)
  rw [decide_eq_true rfl] at heq
  have HEQ := hid heq
  clear heq k13 HCC HA12 RA12 RZ12 RY12 RX12 RP12 RT12 Q12 HH12
  go_wp2_with fail
  refine HEQ.out.mono ?_
  rintro e w14 ⟨rfl, k14⟩
  have HA14 := hid (HA13.out.quiet k14); have RZ14 := hid (RZ13.out.keeps k14 (fun _ _ h => h)); have RY14 := hid (RY13.out.keeps k14 (fun _ _ h => h)); have RX14 := hid (RX13.out.keeps k14 (fun _ _ h => h)); have RP14 := hid (RP13.out.keeps k14 (fun _ _ h => h)); have RT14 := hid (RT13.out.keeps k14 (fun _ _ h => h)); have Q14 := hid (block_keep Q13.out k14 (fun h => h)); have HH14 := hid (HH13.out.keeps k14 (fun h => h) (fun h => h))
  obtain ⟨t0, _, tl⟩ := cells1 Q14.out
  clear k14 HEQ HA13 RA13 RZ13 RY13 RX13 RP13 RT13 Q13 HH13
  go_wp2_with fail
  clear t0 tl
  go_loopw [114] (fun ix wr => ∃ k : Nat, k ≤ T.length ∧ ix = .int .i64 k ∧ Hid (Keeps (fun _ => False) w14 wr)) (fun ix _ => T.length - (intOf ix).toNat)
  case atStart => exact ⟨0, Nat.zero_le _, rfl, hid (Keeps.refl _ _)⟩
  case round =>
    obtain ⟨k, hk, rfl, HK⟩ := hrel
    have hk0 : (0 : Int) ≤ k := by omega
    obtain ⟨wq, hwq⟩ : ∃ wq, wr = wq := ⟨_, rfl⟩
    rw [hwq] at HK ⊢
    clear hwq
    by_cases hlt : k < T.length
    · have hlt' : (k : Int) < (T.length : Int) := by omega
      obtain ⟨r, hr⟩ : ∃ r, T[k]? = some r := ⟨_, List.getElem?_eq_getElem hlt⟩
      obtain ⟨g, rfl, d0, d1⟩ := (RT14.out.keeps HK.out (fun _ _ h => h)).cellk hr
      obtain ⟨ix, hix⟩ : ∃ b, decide (r ∈ X) = b := ⟨_, rfl⟩
      obtain ⟨iy, hiy⟩ : ∃ b, decide (r ∈ Y) = b := ⟨_, rfl⟩
      obtain ⟨ip, hip⟩ : ∃ b, decide (r ∈ P) = b := ⟨_, rfl⟩
      have hzb : decide (r ∈ Z) = (ix || iy) := by
        have h1 := HPT.out.both r
        rw [HX.out, HY.out, HZZ.out] at h1
        rw [← hix, ← hiy]
        by_cases hx : r ∈ X
        · simp [hx, h1]
        · by_cases hy : r ∈ Y
          · simp [hx, hy, h1]
          · simp [hx, hy, h1]
      have hpx : ip = true → ix = true := fun h => by
        rw [← hip] at h
        rw [← hix]
        have h1 := HPT.out.self r (of_decide_eq_true h)
        rw [HX.out] at h1
        exact decide_eq_true h1
      obtain ⟨we, hwe⟩ : ∃ we, wq.alloc (.cells #[.int .i64 r.s, .int .u32 r.g] 33) = we := ⟨_, rfl⟩
      have ke : Keeps (fun _ => False) w14 we := by rw [← hwe]; exact HK.out.alloc _
      obtain ⟨E, hE⟩ : ∃ E, wq.heap.size = E := ⟨_, rfl⟩
      have qe : we.heap[E]? = some (.cells #[.int .i64 r.s, .int .u32 r.g] 33) := by rw [← hwe, ← hE]; exact alloc_new
      have HKE := hid ke; have HWE := hid hwe; have HE := hid hE
      have HPE := hid (fun W (hk : Keeps (fun _ => False) we W) => cells2 (block_keep qe hk (fun h => h)))
      have HCX := hid (fun W (hk : Keeps (fun _ => False) w14 W) => rcontains _ X r W (RX14.out.keeps hk (fun _ _ h => h)) (by omega))
      have HCY := hid (fun W (hk : Keeps (fun _ => False) w14 W) => rcontains _ Y r W (RY14.out.keeps hk (fun _ _ h => h)) (by omega))
      have HCZ2 := hid (fun W (hk : Keeps (fun _ => False) w14 W) => rcontains _ Z r W (RZ14.out.keeps hk (fun _ _ h => h)) (by omega))
      have HCP := hid (fun W (hk : Keeps (fun _ => False) w14 W) => rcontains _ P r W (RP14.out.keeps hk (fun _ _ h => h)) (by omega))
      rw [hix] at HCX
      rw [hiy] at HCY
      rw [hip] at HCP
      rw [hzb] at HCZ2
      have HPX := hid hpx
      clear hr hix hiy hip hzb hpx ke qe hwe hE
      go_upto_region 20 with (fail)
      try rw [HE.out]
      rw [HWE.out]
      clear d0 d1
      obtain ⟨y0, y1, _, yl⟩ := HPE.out we (Keeps.refl _ _)
      go_wp2_with fail
      refine (HCX.out _ HKE.out).mono ?_
      rintro e wf ⟨rfl, kf⟩
      have HKF := hid (HKE.out.trans kf)
      have HPF := hid (fun W (hk : Keeps (fun _ => False) wf W) => HPE.out W (kf.trans hk))
      clear kf y0 y1 yl
      obtain ⟨y0, y1, _, yl⟩ := HPF.out wf (Keeps.refl _ _)
      have fin : ∀ W, Keeps (fun _ => False) w14 W → (∃ k' : Nat, k' ≤ T.length ∧ (.int .i64 ((k : Int) + 1) : Value) = .int .i64 k' ∧ Hid (Keeps (fun _ => False) w14 W)) := fun W hW => ⟨k + 1, by omega, by simp, hid hW⟩
      have FIN := hid fin
      clear fin
      cases ix
      · cases ip
        rotate_left
        · exact absurd (HPX.out rfl) (by simp)
        rw [Bool.false_or] at HCZ2
        go_wp2_with fail
        refine (HCY.out _ HKF.out).mono ?_
        rintro e wg ⟨rfl, kg⟩
        have HKG := hid (HKF.out.trans kg)
        have HPG := hid (fun W (hk : Keeps (fun _ => False) wg W) => HPF.out W (kg.trans hk))
        clear kg y0 y1 yl
        obtain ⟨y0, y1, _, yl⟩ := HPG.out wg (Keeps.refl _ _)
        go_wp2_with fail
        refine (HCZ2.out _ HKG.out).mono ?_
        rintro e wh ⟨rfl, kh⟩
        have HKH := hid (HKG.out.trans kh)
        have HPH := hid (fun W (hk : Keeps (fun _ => False) wh W) => HPG.out W (kh.trans hk))
        clear kh y0 y1 yl
        obtain ⟨y0, y1, _, yl⟩ := HPH.out wh (Keeps.refl _ _)
        cases iy
        all_goals
          go_wp2_with fail
          refine (HCP.out _ HKH.out).mono ?_
          rintro e wi ⟨rfl, ki⟩
          have HKI := hid (HKH.out.trans ki)
          clear ki y0 y1 yl
          go_wp2_with fail
          exact ⟨⟨k + 1, by omega, by go_num, HKI⟩, by simp [intOf]; omega⟩
      · rw [Bool.true_or] at HCZ2
        go_wp2_with fail
        refine (HCZ2.out _ HKF.out).mono ?_
        rintro e wh ⟨rfl, kh⟩
        have HKH := hid (HKF.out.trans kh)
        have HPH := hid (fun W (hk : Keeps (fun _ => False) wh W) => HPF.out W (kh.trans hk))
        clear kh y0 y1 yl
        obtain ⟨y0, y1, _, yl⟩ := HPH.out wh (Keeps.refl _ _)
        go_wp2_with fail
        refine (HCP.out _ HKH.out).mono ?_
        rintro e wi ⟨rfl, ki⟩
        have HKI := hid (HKH.out.trans ki)
        have HPI := hid (fun W (hk : Keeps (fun _ => False) wi W) => HPH.out W (ki.trans hk))
        clear ki y0 y1 yl
        obtain ⟨y0, y1, _, yl⟩ := HPI.out wi (Keeps.refl _ _)
        cases ip
        · go_wp2_with fail
          exact ⟨⟨k + 1, by omega, by go_num, HKI⟩, by simp [intOf]; omega⟩
        · go_wp2_with fail
          refine (HCX.out _ HKI.out).mono ?_
          rintro e wj ⟨rfl, kj⟩
          have HKJ := hid (HKI.out.trans kj)
          clear kj y0 y1 yl
          go_wp2_with fail
          exact ⟨⟨k + 1, by omega, by go_num, HKJ⟩, by simp [intOf]; omega⟩
    have hlt' : ¬ (k : Int) < (T.length : Int) := by omega
    have hcl := closed_ok b t A.H _ P wq (HH14.out.keeps HK.out (fun h => h) (fun h => h)) (RP14.out.keeps HK.out (fun _ _ h => h)) HWP.out (by omega)
    rw [HPT.out.tp, HPT.out.less, HX.out] at hcl
    obtain ⟨ls, hls⟩ : ∃ b, X.all (fun r => decide (r ∈ P)) = b := ⟨_, rfl⟩
    rw [hls] at hcl
    have HCL := hid hcl; have HLS := hid (show (X.take X.length).all (fun r => decide (r ∈ P)) = ls by rw [List.take_length]; exact hls)
    clear hcl hls
    go_wp2_with fail
    clear hlt'
    refine HCL.out.mono ?_
    rintro e wf ⟨rfl, kf⟩
    have HKF := hid (HK.out.trans kf)
    clear kf HCL HK
    go_wp2_with fail
    go_loopw [27, 151] (fun s27 ix wr => ∃ j : Nat, j ≤ X.length ∧ ix = .int .i64 j ∧ s27 = .bool ((X.take j).all (fun r => decide (r ∈ P))) ∧ Hid (Keeps (fun _ => False) w14 wr)) (fun _ ix _ => X.length - (intOf ix).toNat)
    case atStart => exact ⟨0, Nat.zero_le _, rfl, by simp, HKF⟩
    case round =>
      obtain ⟨j, hj, rfl, rfl, HKJ⟩ := hrel
      have hj0 : (0 : Int) ≤ j := by omega
      obtain ⟨wq, hwq⟩ : ∃ wq, wr = wq := ⟨_, rfl⟩
      rw [hwq] at HKJ ⊢
      clear hwq
      by_cases hlj : j < X.length
      · have hlj' : (j : Int) < (X.length : Int) := by omega
        obtain ⟨r, hr⟩ : ∃ r, X[j]? = some r := ⟨_, List.getElem?_eq_getElem hlj⟩
        obtain ⟨g, rfl, d0, d1⟩ := (RX14.out.keeps HKJ.out (fun _ _ h => h)).cellk hr
        obtain ⟨ip, hip⟩ : ∃ b, decide (r ∈ P) = b := ⟨_, rfl⟩
        have hsu := all_take_succ (f := fun r => decide (r ∈ P)) hr
        try dsimp only at hsu
        rw [hip] at hsu
        have HSU := hid hsu
        obtain ⟨old, hold⟩ : ∃ b, (X.take j).all (fun r => decide (r ∈ P)) = b := ⟨_, rfl⟩
        rw [hold] at HSU ⊢
        have HCP := hid (fun W (hk : Keeps (fun _ => False) w14 W) => rcontains _ P r W (RP14.out.keeps hk (fun _ _ h => h)) (by omega))
        rw [hip] at HCP
        have ke : Keeps (fun _ => False) w14 (wq.alloc (.cells #[.int .i64 r.s, .int .u32 r.g] 33)) := HKJ.out.alloc _
        have HKE := hid ke
        clear hr hip hsu hold ke
        cases old
        · go_wp2_with fail
          exact ⟨⟨j + 1, by omega, by go_num, by rw [HSU.out]; rfl, HKE⟩, by simp [intOf]; omega⟩
        · go_wp2_with fail
          refine (HCP.out _ HKE.out).mono ?_
          rintro e wi ⟨rfl, ki⟩
          have HKI := hid (HKE.out.trans ki)
          clear ki d0 d1
          go_wp2_with fail
          exact ⟨⟨j + 1, by omega, by go_num, by rw [HSU.out]; rfl, HKI⟩, by simp [intOf]; omega⟩
      have hlj' : ¬ (j : Int) < (X.length : Int) := by omega
      obtain rfl : j = X.length := by omega
      rw [HLS.out]
      have HAF := hid (HA14.out.quiet HKJ.out)
      cases ls
      all_goals
        go_wp2_with fail
        refine (works19 _).mono ?_
        rintro e wz ⟨rfl, kz⟩
        go_wp2_with fail
        go_ret
        exact ⟨rfl, (HAF.out.quiet kz).k.fresh⟩
set_option maxRecDepth 100000 in
theorem reachParts_law {H : Type} {enc : TypeId × Value → H} {base : Nat} {spare : Nat → Bool} {held : Bool} {r : Reach} {b0 : Nat}
    (v0 : Value) (d0 : DataW H) (p0 : List MemPlace) {w : World} (hv0 : Value.okWide Tryz.prog w r b0 22 v0) (h0 : DataW.Trod enc Tryz.prog w base spare held 22 v0 d0 p0)
    (v1 : Value) (d1 : DataW H) (p1 : List MemPlace) (hv1 : Value.okWide Tryz.prog w r b0 23 v1) (h1 : DataW.Trod enc Tryz.prog w base spare held 23 v1 d1 p1)
    (v2 : Value) (d2 : DataW H) (p2 : List MemPlace) (hv2 : Value.okWide Tryz.prog w r b0 23 v2) (h2 : DataW.Trod enc Tryz.prog w base spare held 23 v2 d2 p2)
    (w' : World) (e' : w' = w) :
    Calls Tryz.prog 3 #[v0, v1, v2] w' fun e w2 => e = .returned (.bool true) ∧ Keeps (fun _ => False) w' w2 := by
  subst e'
  obtain ⟨a, n, k, rfl, e1, e2, hx⟩ := open_flat_slice (ks := ks19) Tryz.underlying22 (by kernel_rfl) (by kernel_rfl) (by decide) hv0 h0
  obtain ⟨l, hl⟩ := mvrow19_of e1 e2 hx
  obtain ⟨a', n', k', rfl, e1', e2', hx'⟩ := open_flat_slice (ks := ks1) Tryz.underlying23 (by kernel_rfl) (by kernel_rfl) (by decide) hv1 h1
  obtain ⟨m, hm⟩ := byrow_of e1' e2' hx'
  obtain ⟨a2, n2, k2, rfl, e12, e22, hx2⟩ := open_flat_slice (ks := ks1) Tryz.underlying23 (by kernel_rfl) (by kernel_rfl) (by decide) hv2 h2
  obtain ⟨m2, hm2⟩ := byrow_of e12 e22 hx2
  exact reachParts_walk _ _ _ l m m2 _ hl hm hm2
end Go.Proofs.YtehmoikbeflkaaaGreat
