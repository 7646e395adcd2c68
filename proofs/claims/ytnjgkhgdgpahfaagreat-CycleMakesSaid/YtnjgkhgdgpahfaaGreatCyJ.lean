/- estraylaw26: turns that make; turns that step. -/
import Derived.Test.YtnjgkhgdgpahfaaGreatCyH
namespace Go.Proofs.YtnjgkhgdgpahfaaGreat
open Go.RowKit
set_option linter.unusedVariables false
set_option linter.unusedSimpArgs false
set_option linter.unusedSectionVars false

variable {w0 w w' : World} {p a m b c : Nat} {LA : ArL} {LM : MkL} {k : Col} {f : List Rf}

theorem Quad.made (h : Quad w0 w a m b c LA LM k) (r : Rf) : Calls Tryz.prog 149 #[.pointer (some ⟨m, 0, none⟩), .agg #[.int .i64 r.s, .int .u32 r.g]] w
    fun e w' => e = .returned (.int .i64 (k.s.M.madeR r).2) ∧ Quad w0 w' a m b c LA LM ⟨⟨k.s.A, (k.s.M.madeR r).1⟩, k.C⟩ ∧ Keeps (foot3 LA LM b c k.s) w w' :=
  (duo_made_any h.tr.both r).mono fun e w' ⟨h1, h2⟩ => ⟨h1, h.mkF h2 (k.s.M.madeR_K r).2 (congrArg Ck.many (k.s.M.madeR_K r).1)⟩
theorem made26 (h : Quad w0 w a m b c LA LM k) (r : Rf) : Calls Tryz.prog 94 #[.pointer (some ⟨m, 0, none⟩), .agg #[.int .i64 r.s, .int .u32 r.g]] w
    fun e w' => e = .returned (.bool ((k.s.M.madeR r).2 == 0)) ∧ Quad w0 w' a m b c LA LM ⟨⟨k.s.A, (k.s.M.madeR r).1⟩, k.C⟩ ∧ Keeps (foot3 LA LM b c k.s) w w' := by
  have HM := hid (fun W (hk : Keeps (fun _ => False) w W) => (h.same hk).made r)
  obtain ⟨wA, hwA⟩ : ∃ wA, w.alloc (.cells #[.int .i64 r.s, .int .u32 r.g] 39) = wA := ⟨_, rfl⟩
  have kA : Keeps (fun _ => False) w wA := by rw [← hwA]; exact (Keeps.refl _ _).alloc _
  have qA : wA.heap[w.heap.size]? = some (.cells #[.int .i64 r.s, .int .u32 r.g] 39) := by rw [← hwA]; exact alloc_new
  obtain ⟨R, hR⟩ : ∃ R, k.s.M.madeR r = R := ⟨_, rfl⟩
  rw [hR] at HM ⊢
  have HKA := hid kA; have HW := hid hwA
  obtain ⟨x0, x1, xf, xl⟩ := cells2 qA
  clear h kA qA hwA hR xf
  go_enter Tryz.func94, Tryz.ntmps94
  go_upto_region 1 with (fail)
  rw [HW.out]
  go_wp2_with fail
  refine (HM.out _ HKA.out).mono ?_
  rintro e w1 ⟨rfl, hq, hk⟩
  have HQ := hid hq; have HK := hid (HKA.out.up.trans hk)
  clear hq hk
  go_wp2_with fail
  go_ret
  exact ⟨rfl, HQ.out, HK.out⟩
set_option maxRecDepth 100000 in
set_option maxHeartbeats 2000000 in
theorem turn_make0 (x : Mv) (h : Pair w0 w p a m b c LA LM k f) (hok : k.Ok) (hx : x.Byte) (hk : x.kind % 16 = 0) :
    Calls Tryz.prog 43 #[.pointer (some ⟨p, 0, none⟩), x.val] w fun e w' => e = .returned (.tuple #[]) ∧ Pair w0 w' p a m b c LA LM ⟨(x.mo26 k.s).doR k.s, k.C⟩ f ∧ PKeep w w' p (foot3 LA LM b c k.s) := by
  have hki : (x.kind : Int) % 16 = 0 := by omega
  have hkt : (x.kind : Int).tmod 16 = 0 := by rw [Int.tmod_eq_emod_of_nonneg (by omega)]; exact hki
  have HF := hid (fun W W' d (hW : Quad w0 W a m b c LA LM d) (hl : k.Like d) (hk : Keeps (fun y => w.heap.size ≤ y) W W') => h.q.far hW hl hk)
  have hmany := hok.s.m.k1; have hm4 := hok.s.m.k4
  obtain ⟨hb0, hb1, hb2, hb3, hb4⟩ := hx
  have hz : ¬ (k.s.M.K.many : Int) = 0 := by omega
  obtain ⟨mk, hmk⟩ : ∃ mk, x.m % k.s.M.K.many = mk := ⟨_, rfl⟩
  have hmkl : mk < k.s.M.K.many := by rw [← hmk]; exact Nat.mod_lt _ (by omega)
  have HMOD := hid (show (x.m : Int) % (k.s.M.K.many : Int) = (mk : Int) by rw [← hmk]; simp)
  obtain ⟨n, hn⟩ : ∃ n, (k.s.A.rt mk).l.length = n := ⟨_, rfl⟩
  have hn2 : (k.s.A.rt mk).n = n := by rw [← hn]; simp [Sk.l]
  obtain ⟨wA, hwA⟩ : ∃ wA, w.alloc (.cells #[.int .u8 x.kind, .int .u8 x.m, .int .u8 x.a, .int .u8 x.b, .int .u8 x.c] 100) = wA := ⟨_, rfl⟩
  have kA : Keeps (fun _ => False) w wA := by rw [← hwA]; exact (Keeps.refl _ _).alloc _
  have qA : wA.heap[w.heap.size]? = some (.cells #[.int .u8 x.kind, .int .u8 x.m, .int .u8 x.a, .int .u8 x.b, .int .u8 x.c] 100) := by rw [← hwA]; exact alloc_new
  obtain ⟨v, hown, hrow⟩ := h.ex
  have hfl := h.q.footlt
  have HCF := hid (fun W (hk : Keeps (foot3 LA LM b c k.s) wA W) => And.intro (cells5 (block_keep qA hk (fun hf => by have := hfl _ hf; omega))) (cells4 (block_keep (block_keep hown kA (fun h => h)) hk (h.q.pairfoot hown))))
  have HSZ := hid (fun W (hk : Keeps (fun _ => False) w W) => asizes_ok a LA k.s.A W (h.q.same hk).tr.both.ar)
  have HSA := hid (fun W (hk : Keeps (fun _ => False) w W) => astackall_ok a LA k.s.A mk W (h.q.same hk).tr.both.ar (by rw [hok.s.k]; exact hmkl))
  rw [hok.s.k] at HSZ
  have HQU := hid (fun W (hk : Keeps (fun _ => False) w W) => h.q.same hk)
  have HFIN := hid (fun W d (hk : Keeps (foot3 LA LM b c k.s) w W) (hd : Quad w0 W a m b c LA LM d) => h.fin hk hd)
  have HFT := hid hfl
  have HPC := hid (fun W (hk : Keeps (foot3 LA LM b c k.s) w W) => let q := cells4 (block_keep hown hk (h.q.pairfoot hown)); And.intro q.2.1 q.1)
  have HI := hid (fun (y : Nat) (hy : y < 256) W => index26 y n W hy)
  have hw0 := lt_block qA
  have HKA := hid kA; have HWA := hid hwA; have HN := hid hn; have HOK := hid hok; have HMK := hid hmk; have HN2 := hid hn2; have HMKL := hid hmkl
  obtain ⟨⟨y0, y1, y2, y3, y4, yl⟩, ⟨x0, x1, x2, x3, xl⟩⟩ := HCF.out wA (Keeps.refl _ _)
  clear hn hn2 hmk kA hwA qA hown hrow hfl h hok hmkl hmany
  have hmo : (x.mo26 k.s).doR k.s = ⟨(k.s.A.makeR mk (x.a % 5 : Nat) false).A, if (k.s.A.makeR mk (x.a % 5 : Nat) false).e = 0 then (k.s.M.madeR (k.s.A.makeR mk (x.a % 5 : Nat) false).now).1 else k.s.M⟩ := by
    have : x.mo26 k.s = .make mk (x.a % 5 : Nat) false := by unfold Mv.mo26; dsimp only; rw [hk, HMK.out]; rfl
    rw [this]; rfl
  rw [hmo]
  have HA := hid (fun W (hk : Keeps (fun _ => False) w W) => (amake_any a LA k.s.A mk (x.a % 5 : Nat) false W (HQU.out W hk).tr.both.ar HOK.out.s.a).mono (fun e w' ⟨h1, h2, h3⟩ => And.intro h1 ((HQU.out W hk).arF h2 h3 (Ar.makeR_n _ _ _ _).2)))
  obtain ⟨N, _, _, hcode⟩ := did_makeR HOK.out.s HOK.out.safe (k := mk) (by rw [HOK.out.s.k]; exact HMKL.out) (x.a % 5 : Nat) false
  have hmy : (k.s.A.makeR mk (x.a % 5 : Nat) false).A.many = k.s.A.many := (Ar.makeR_n _ _ _ _).2
  obtain ⟨R, hR⟩ : ∃ R, k.s.A.makeR mk (x.a % 5 : Nat) false = R := ⟨_, rfl⟩
  rw [hR] at HA hcode hmy ⊢
  have HDI := hid hcode
  have HWR := hid (fun W (hq : Quad w0 W a m b c LA LM ⟨⟨R.A, k.s.M⟩, k.C⟩) => made26 hq R.now)
  rw [foot3_of (s := k.s) (t := ⟨R.A, k.s.M⟩) hmy rfl] at HWR
  have hlike : k.Like ⟨⟨R.A, k.s.M⟩, k.C⟩ := ⟨rfl, rfl, hmy⟩
  have HLK := hid hlike
  obtain ⟨T, hT⟩ : ∃ T, (if R.e = 0 then (k.s.M.madeR R.now).1 else k.s.M) = T := ⟨_, rfl⟩
  have HT := hid hT
  rw [hT]
  clear hk hmo hR hmy hT hcode hlike
  unfold Mv.val
  go_enter Tryz.func43, Tryz.ntmps43
  go_upto_region 1 with (fail)
  rw [HWA.out]
  go_wp2_with fail
  refine (HSZ.out _ HKA.out).mono ?_
  rintro e w1 ⟨rfl, k1⟩
  have HK1 := hid (HKA.out.trans k1)
  obtain ⟨⟨z0, z1, z2, z3, z4, zl⟩, ⟨u0, u1, u2, u3, ul⟩⟩ := HCF.out w1 k1.up
  have HK1A := hid k1
  clear k1 y0 y1 y2 y3 y4 yl x0 x1 x2 x3 xl
  go_wp2_with fail
  rw [HMOD.out]
  refine (HSA.out _ HK1.out).mono ?_
  rintro e w2 ⟨v5, rfl, hr5, k2⟩
  have hsh := own_shape hr5
  obtain ⟨p5, c5, hv5⟩ := hsh
  obtain rfl := hv5
  have HK2 := hid (HK1.out.trans k2)
  obtain ⟨⟨y0, y1, y2, y3, y4, yl⟩, ⟨x0, x1, x2, x3, xl⟩⟩ := HCF.out w2 (HK1A.out.trans k2).up
  have HK2A := hid (HK1A.out.trans k2)
  clear k2 hr5 z0 z1 z2 z3 z4 zl u0 u1 u2 u3 ul
  rw [HN.out]
  go_wp2_with fail
  go_quiet (first | (go_at_call 92; refine (HI.out _ (by assumption) _).mono ?_; rintro e w' ⟨rfl, rfl⟩; exact ⟨rfl, _, rfl⟩))
  obtain ⟨wq, hwq⟩ : ∃ wq, w2.drewN nq = wq := ⟨_, rfl⟩
  rw [hwq]
  have kq : Keeps (fun _ => False) w2 wq := by rw [← hwq]; exact (Keeps.refl _ _).drewN _
  obtain ⟨⟨z0, z1, z2, z3, z4, zl⟩, ⟨u0, u1, u2, u3, ul⟩⟩ := HCF.out wq (HK2A.out.trans kq).up
  have HKQ := hid (HK2.out.trans kq)
  have HKQA := hid (HK2A.out.trans kq)
  clear hwq kq y0 y1 y2 y3 y4 yl x0 x1 x2 x3 xl HK2 HK2A
  go_wp2_with fail
  go_quiet (fail)
  obtain ⟨wz, hwz⟩ : ∃ wz, wq.drewN nq = wz := ⟨_, rfl⟩
  rw [hwz]
  have kq : Keeps (fun _ => False) wq wz := by rw [← hwz]; exact (Keeps.refl _ _).drewN _
  obtain ⟨⟨y0, y1, y2, y3, y4, yl⟩, ⟨x0, x1, x2, x3, xl⟩⟩ := HCF.out wz (HKQA.out.trans kq).up
  have HK2 := hid (HKQ.out.trans kq)
  have HK2A := hid (HKQA.out.trans kq)
  clear hwz kq z0 z1 z2 z3 z4 zl u0 u1 u2 u3 ul HKQ HKQA
  go_wp2_with fail
  have hzw := HK2.out.size
  have hzA := HK2A.out.size
  have HPS := hid (fun W (hk : Keeps (foot3 LA LM b c k.s) wA W) => And.intro (HCF.out W hk).2.1 (HCF.out W hk).1.1)
  clear y0 y1 y2 y3 y4 yl x0 x1 x2 x3 xl
  go_region_held3 (fun W => W.cell? ⟨p, 0, none⟩ = some (.pointer (some ⟨a, 0, none⟩)) ∧ W.cell? ⟨w.heap.size, 0, none⟩ = some (.int .u8 x.kind))
    ((refine HPS.out _ ?_; (repeat (first | with_reducible exact HK2A.out.up | with_reducible refine Keeps.alloc ?_ _ | with_reducible refine Keeps.drew ?_ | with_reducible refine Keeps.setCell ?_ (.inr ?_) _ | with_reducible refine Keeps.trans ?_ hk3)) <;> (dsimp only; omega)))
    (first | (go_at_call 93; refine (HA.out _ (by (repeat (first | with_reducible exact HK2.out | with_reducible refine Keeps.drewN ?_ _ | with_reducible refine Keeps.drew ?_ | with_reducible refine Keeps.alloc ?_ _)))).mono ?_; rintro e w3 ⟨rfl, hq3, hk3⟩; dsimp only [Rf.val]; have hkw : Keeps (foot3 LA LM b c k.s) w w3 := Keeps.trans (by (repeat (first | with_reducible exact HK2.out.up | with_reducible refine Keeps.drewN ?_ _ | with_reducible refine Keeps.drew ?_ | with_reducible refine Keeps.alloc ?_ _))) hk3; have hks := hkw.size; (first | (have nb := block_keep (show (World.drew (wz.alloc (.cells #[.int .i64 0, .int .u32 0] 39))).heap[wz.heap.size]? = _ from alloc_new) hk3 (fun hf => by have := HFT.out _ hf; omega); have nx := cells2 nb; obtain ⟨n0, n1, nf, nl⟩ := nx; have nf0 := nf 0; have nf1 := nf 1) | skip)))
  · obtain ⟨w4, hw4⟩ : ∃ w4, w3.alloc (.cells #[.int .i64 R.now.s, .int .u32 R.now.g] 39) = w4 := ⟨_, rfl⟩
    have hB : w4.heap[w3.heap.size]? = some (.cells #[.int .i64 R.now.s, .int .u32 R.now.g] 39) := by rw [← hw4]; exact alloc_new
    have lB : w.heap.size ≤ w3.heap.size := hks
    have hq4 : Quad w0 w4 a m b c LA LM ⟨⟨R.A, k.s.M⟩, k.C⟩ := by rw [← hw4]; exact hq3.same ((Keeps.refl _ _).alloc _)
    have hk4 : Keeps (foot3 LA LM b c k.s) w w4 := by rw [← hw4]; exact hkw.alloc _
    have HW4 := hid hw4
    clear hw4 hq3 hk3 hkw
    have hcs := hk4.size
    have HQ4 := hid hq4; have HK4 := hid hk4
    have HHS := hid (fun W (hk : Keeps (foot3 LA LM b c k.s) w4 W) => let q := cells2 (block_keep hB hk (fun hf => by have := HFT.out _ hf; omega)); And.intro (HPC.out W (HK4.out.trans hk)).1 (And.intro q.1 q.2.1))
    have HMR := hid (fun W (hk : Keeps (fun _ => False) w4 W) => cymarker (HQ4.out.same hk))
    clear hq4 hk4 hB
    go_upto_region 20 with (fail)
    rw [HW4.out]
    by_cases he : R.e = 0
    · have he1 : (R.e == 0) = true := by simpa using he
      have h0 := (HDI.out he).1
      have hT0 : (k.s.M.madeR R.now).1 = T := by have := HT.out; rwa [if_pos he] at this
      rw [h0, hT0, show ((0 : Int) == 0) = true from rfl] at HWR
      clear he h0 hT0
      go_region_held3 (fun W => W.cell? ⟨p, 1, none⟩ = some (.pointer (some ⟨c, 0, none⟩)) ∧ W.cell? ⟨w3.heap.size, 0, none⟩ = some (.int .i64 R.now.s) ∧ W.cell? ⟨w3.heap.size, 1, none⟩ = some (.int .u32 R.now.g))
        ((refine HHS.out _ ?_; (repeat (first | with_reducible exact Keeps.refl _ _ | with_reducible refine Keeps.drewN ?_ _ | with_reducible refine Keeps.drew ?_ | with_reducible refine Keeps.trans ?_ (by with_reducible assumption)))))
        (first
          | (go_at_call 95; refine (HMR.out _ (by (repeat (first | with_reducible exact Keeps.refl _ _ | with_reducible refine Keeps.drewN ?_ _ | with_reducible refine Keeps.drew ?_)))).mono ?_; rintro e w5 ⟨rfl, rfl⟩)
          | (go_at_call 94; refine (HWR.out _ (HQ4.out.same (by (repeat (first | with_reducible exact Keeps.refl _ _ | with_reducible refine Keeps.drewN ?_ _ | with_reducible refine Keeps.drew ?_))))).mono ?_; rintro e w6 ⟨rfl, hq6, hk6⟩))
      all_goals
        go_wp2_with fail
        go_end0
        exact ⟨rfl, HFIN.out _ _ (HK4.out.trans (Keeps.trans (Keeps.up (by (repeat (first | with_reducible exact Keeps.refl _ _ | with_reducible refine Keeps.drewN ?_ _ | with_reducible refine Keeps.drew ?_)))) hk6)) hq6⟩
    · have he1 : (R.e == 0) = false := by simpa using he
      have hT0 : k.s.M = T := by have := HT.out; rwa [if_neg he] at this
      have HQT := hid (show Quad w0 w4 a m b c LA LM ⟨⟨R.A, T⟩, k.C⟩ by rw [← hT0]; exact HQ4.out)
      clear he hT0
      go_quiet (fail)
      go_wp2_with fail
      go_end0
      exact ⟨rfl, HFIN.out _ _ (HK4.out.drewN _) (HQT.out.same ((Keeps.refl _ _).drewN _))⟩
  · obtain ⟨w4, hw4⟩ : ∃ w4, (w3.setCell ⟨wz.heap.size, 0, none⟩ (.int .i64 R.now.s)).setCell ⟨wz.heap.size, 1, none⟩ (.int .u32 R.now.g) = w4 := ⟨_, rfl⟩
    have hB : w4.heap[wz.heap.size]? = some (.cells #[.int .i64 R.now.s, .int .u32 R.now.g] 39) := by rw [← hw4]; exact fin2 nb
    have lB : w.heap.size ≤ wz.heap.size := hzw
    have hq4 : Quad w0 w4 a m b c LA LM ⟨⟨R.A, k.s.M⟩, k.C⟩ := by rw [← hw4]; exact HF.out _ _ _ hq3 HLK.out ((kfin0 _ _ _ _).mono (fun y _ h => by omega))
    have hk4 : Keeps (foot3 LA LM b c k.s) w w4 := by rw [← hw4]; exact kfin hkw hzw _ _
    have HW4 := hid hw4
    clear hw4 hq3 hk3 hkw nb n0 n1 nf nf0 nf1 nl
    have hcs := hk4.size
    have HQ4 := hid hq4; have HK4 := hid hk4
    have HHS := hid (fun W (hk : Keeps (foot3 LA LM b c k.s) w4 W) => let q := cells2 (block_keep hB hk (fun hf => by have := HFT.out _ hf; omega)); And.intro (HPC.out W (HK4.out.trans hk)).1 (And.intro q.1 q.2.1))
    have HMR := hid (fun W (hk : Keeps (fun _ => False) w4 W) => cymarker (HQ4.out.same hk))
    clear hq4 hk4 hB
    go_upto_region 20 with (fail)
    rw [HW4.out]
    by_cases he : R.e = 0
    · have he1 : (R.e == 0) = true := by simpa using he
      have h0 := (HDI.out he).1
      have hT0 : (k.s.M.madeR R.now).1 = T := by have := HT.out; rwa [if_pos he] at this
      rw [h0, hT0, show ((0 : Int) == 0) = true from rfl] at HWR
      clear he h0 hT0
      go_region_held3 (fun W => W.cell? ⟨p, 1, none⟩ = some (.pointer (some ⟨c, 0, none⟩)) ∧ W.cell? ⟨wz.heap.size, 0, none⟩ = some (.int .i64 R.now.s) ∧ W.cell? ⟨wz.heap.size, 1, none⟩ = some (.int .u32 R.now.g))
        ((refine HHS.out _ ?_; (repeat (first | with_reducible exact Keeps.refl _ _ | with_reducible refine Keeps.drewN ?_ _ | with_reducible refine Keeps.drew ?_ | with_reducible refine Keeps.trans ?_ (by with_reducible assumption)))))
        (first
          | (go_at_call 95; refine (HMR.out _ (by (repeat (first | with_reducible exact Keeps.refl _ _ | with_reducible refine Keeps.drewN ?_ _ | with_reducible refine Keeps.drew ?_)))).mono ?_; rintro e w5 ⟨rfl, rfl⟩)
          | (go_at_call 94; refine (HWR.out _ (HQ4.out.same (by (repeat (first | with_reducible exact Keeps.refl _ _ | with_reducible refine Keeps.drewN ?_ _ | with_reducible refine Keeps.drew ?_))))).mono ?_; rintro e w6 ⟨rfl, hq6, hk6⟩))
      all_goals
        go_wp2_with fail
        go_end0
        exact ⟨rfl, HFIN.out _ _ (HK4.out.trans (Keeps.trans (Keeps.up (by (repeat (first | with_reducible exact Keeps.refl _ _ | with_reducible refine Keeps.drewN ?_ _ | with_reducible refine Keeps.drew ?_)))) hk6)) hq6⟩
    · have he1 : (R.e == 0) = false := by simpa using he
      have hT0 : k.s.M = T := by have := HT.out; rwa [if_neg he] at this
      have HQT := hid (show Quad w0 w4 a m b c LA LM ⟨⟨R.A, T⟩, k.C⟩ by rw [← hT0]; exact HQ4.out)
      clear he hT0
      go_quiet (fail)
      go_wp2_with fail
      go_end0
      exact ⟨rfl, HFIN.out _ _ (HK4.out.drewN _) (HQT.out.same ((Keeps.refl _ _).drewN _))⟩
set_option maxRecDepth 100000 in
set_option maxHeartbeats 2000000 in
theorem turn_make1 (x : Mv) (h : Pair w0 w p a m b c LA LM k f) (hok : k.Ok) (hx : x.Byte) (hk : x.kind % 16 = 1) :
    Calls Tryz.prog 43 #[.pointer (some ⟨p, 0, none⟩), x.val] w fun e w' => e = .returned (.tuple #[]) ∧ Pair w0 w' p a m b c LA LM ⟨(x.mo26 k.s).doR k.s, k.C⟩ f ∧ PKeep w w' p (foot3 LA LM b c k.s) := by
  have hki : (x.kind : Int) % 16 = 1 := by omega
  have hkt : (x.kind : Int).tmod 16 = 1 := by rw [Int.tmod_eq_emod_of_nonneg (by omega)]; exact hki
  have HF := hid (fun W W' d (hW : Quad w0 W a m b c LA LM d) (hl : k.Like d) (hk : Keeps (fun y => w.heap.size ≤ y) W W') => h.q.far hW hl hk)
  have hmany := hok.s.m.k1; have hm4 := hok.s.m.k4
  obtain ⟨hb0, hb1, hb2, hb3, hb4⟩ := hx
  have hz : ¬ (k.s.M.K.many : Int) = 0 := by omega
  obtain ⟨mk, hmk⟩ : ∃ mk, x.m % k.s.M.K.many = mk := ⟨_, rfl⟩
  have hmkl : mk < k.s.M.K.many := by rw [← hmk]; exact Nat.mod_lt _ (by omega)
  have HMOD := hid (show (x.m : Int) % (k.s.M.K.many : Int) = (mk : Int) by rw [← hmk]; simp)
  obtain ⟨n, hn⟩ : ∃ n, (k.s.A.rt mk).l.length = n := ⟨_, rfl⟩
  have hn2 : (k.s.A.rt mk).n = n := by rw [← hn]; simp [Sk.l]
  obtain ⟨wA, hwA⟩ : ∃ wA, w.alloc (.cells #[.int .u8 x.kind, .int .u8 x.m, .int .u8 x.a, .int .u8 x.b, .int .u8 x.c] 100) = wA := ⟨_, rfl⟩
  have kA : Keeps (fun _ => False) w wA := by rw [← hwA]; exact (Keeps.refl _ _).alloc _
  have qA : wA.heap[w.heap.size]? = some (.cells #[.int .u8 x.kind, .int .u8 x.m, .int .u8 x.a, .int .u8 x.b, .int .u8 x.c] 100) := by rw [← hwA]; exact alloc_new
  obtain ⟨v, hown, hrow⟩ := h.ex
  have hfl := h.q.footlt
  have HCF := hid (fun W (hk : Keeps (foot3 LA LM b c k.s) wA W) => And.intro (cells5 (block_keep qA hk (fun hf => by have := hfl _ hf; omega))) (cells4 (block_keep (block_keep hown kA (fun h => h)) hk (h.q.pairfoot hown))))
  have HSZ := hid (fun W (hk : Keeps (fun _ => False) w W) => asizes_ok a LA k.s.A W (h.q.same hk).tr.both.ar)
  have HSA := hid (fun W (hk : Keeps (fun _ => False) w W) => astackall_ok a LA k.s.A mk W (h.q.same hk).tr.both.ar (by rw [hok.s.k]; exact hmkl))
  rw [hok.s.k] at HSZ
  have HQU := hid (fun W (hk : Keeps (fun _ => False) w W) => h.q.same hk)
  have HFIN := hid (fun W d (hk : Keeps (foot3 LA LM b c k.s) w W) (hd : Quad w0 W a m b c LA LM d) => h.fin hk hd)
  have HFT := hid hfl
  have HPC := hid (fun W (hk : Keeps (foot3 LA LM b c k.s) w W) => let q := cells4 (block_keep hown hk (h.q.pairfoot hown)); And.intro q.2.1 q.1)
  have HI := hid (fun (y : Nat) (hy : y < 256) W => index26 y n W hy)
  have hw0 := lt_block qA
  have HKA := hid kA; have HWA := hid hwA; have HN := hid hn; have HOK := hid hok; have HMK := hid hmk; have HN2 := hid hn2; have HMKL := hid hmkl
  obtain ⟨⟨y0, y1, y2, y3, y4, yl⟩, ⟨x0, x1, x2, x3, xl⟩⟩ := HCF.out wA (Keeps.refl _ _)
  clear hn hn2 hmk kA hwA qA hown hrow hfl h hok hmkl hmany
  have hmo : (x.mo26 k.s).doR k.s = ⟨(k.s.A.makeR mk 0 true).A, if (k.s.A.makeR mk 0 true).e = 0 then (k.s.M.madeR (k.s.A.makeR mk 0 true).now).1 else k.s.M⟩ := by
    have : x.mo26 k.s = .make mk 0 true := by unfold Mv.mo26; dsimp only; rw [hk, HMK.out]; rfl
    rw [this]; rfl
  rw [hmo]
  have HA := hid (fun W (hk : Keeps (fun _ => False) w W) => (amake_any a LA k.s.A mk 0 true W (HQU.out W hk).tr.both.ar HOK.out.s.a).mono (fun e w' ⟨h1, h2, h3⟩ => And.intro h1 ((HQU.out W hk).arF h2 h3 (Ar.makeR_n _ _ _ _).2)))
  obtain ⟨N, _, _, hcode⟩ := did_makeR HOK.out.s HOK.out.safe (k := mk) (by rw [HOK.out.s.k]; exact HMKL.out) 0 true
  have hmy : (k.s.A.makeR mk 0 true).A.many = k.s.A.many := (Ar.makeR_n _ _ _ _).2
  obtain ⟨R, hR⟩ : ∃ R, k.s.A.makeR mk 0 true = R := ⟨_, rfl⟩
  rw [hR] at HA hcode hmy ⊢
  have HDI := hid hcode
  have HWR := hid (fun W (hq : Quad w0 W a m b c LA LM ⟨⟨R.A, k.s.M⟩, k.C⟩) => made26 hq R.now)
  rw [foot3_of (s := k.s) (t := ⟨R.A, k.s.M⟩) hmy rfl] at HWR
  have hlike : k.Like ⟨⟨R.A, k.s.M⟩, k.C⟩ := ⟨rfl, rfl, hmy⟩
  have HLK := hid hlike
  obtain ⟨T, hT⟩ : ∃ T, (if R.e = 0 then (k.s.M.madeR R.now).1 else k.s.M) = T := ⟨_, rfl⟩
  have HT := hid hT
  rw [hT]
  clear hk hmo hR hmy hT hcode hlike
  unfold Mv.val
  go_enter Tryz.func43, Tryz.ntmps43
  go_upto_region 1 with (fail)
  rw [HWA.out]
  go_wp2_with fail
  refine (HSZ.out _ HKA.out).mono ?_
  rintro e w1 ⟨rfl, k1⟩
  have HK1 := hid (HKA.out.trans k1)
  obtain ⟨⟨z0, z1, z2, z3, z4, zl⟩, ⟨u0, u1, u2, u3, ul⟩⟩ := HCF.out w1 k1.up
  have HK1A := hid k1
  clear k1 y0 y1 y2 y3 y4 yl x0 x1 x2 x3 xl
  go_wp2_with fail
  rw [HMOD.out]
  refine (HSA.out _ HK1.out).mono ?_
  rintro e w2 ⟨v5, rfl, hr5, k2⟩
  have hsh := own_shape hr5
  obtain ⟨p5, c5, hv5⟩ := hsh
  obtain rfl := hv5
  have HK2 := hid (HK1.out.trans k2)
  obtain ⟨⟨y0, y1, y2, y3, y4, yl⟩, ⟨x0, x1, x2, x3, xl⟩⟩ := HCF.out w2 (HK1A.out.trans k2).up
  have HK2A := hid (HK1A.out.trans k2)
  clear k2 hr5 z0 z1 z2 z3 z4 zl u0 u1 u2 u3 ul
  rw [HN.out]
  go_wp2_with fail
  go_quiet (first | (go_at_call 92; refine (HI.out _ (by assumption) _).mono ?_; rintro e w' ⟨rfl, rfl⟩; exact ⟨rfl, _, rfl⟩))
  obtain ⟨wq, hwq⟩ : ∃ wq, w2.drewN nq = wq := ⟨_, rfl⟩
  rw [hwq]
  have kq : Keeps (fun _ => False) w2 wq := by rw [← hwq]; exact (Keeps.refl _ _).drewN _
  obtain ⟨⟨z0, z1, z2, z3, z4, zl⟩, ⟨u0, u1, u2, u3, ul⟩⟩ := HCF.out wq (HK2A.out.trans kq).up
  have HKQ := hid (HK2.out.trans kq)
  have HKQA := hid (HK2A.out.trans kq)
  clear hwq kq y0 y1 y2 y3 y4 yl x0 x1 x2 x3 xl HK2 HK2A
  go_wp2_with fail
  go_quiet (fail)
  obtain ⟨wz, hwz⟩ : ∃ wz, wq.drewN nq = wz := ⟨_, rfl⟩
  rw [hwz]
  have kq : Keeps (fun _ => False) wq wz := by rw [← hwz]; exact (Keeps.refl _ _).drewN _
  obtain ⟨⟨y0, y1, y2, y3, y4, yl⟩, ⟨x0, x1, x2, x3, xl⟩⟩ := HCF.out wz (HKQA.out.trans kq).up
  have HK2 := hid (HKQ.out.trans kq)
  have HK2A := hid (HKQA.out.trans kq)
  clear hwz kq z0 z1 z2 z3 z4 zl u0 u1 u2 u3 ul HKQ HKQA
  go_wp2_with fail
  have hzw := HK2.out.size
  have hzA := HK2A.out.size
  have HPS := hid (fun W (hk : Keeps (foot3 LA LM b c k.s) wA W) => And.intro (HCF.out W hk).2.1 (HCF.out W hk).1.1)
  clear y0 y1 y2 y3 y4 yl x0 x1 x2 x3 xl
  go_region_held3 (fun W => W.cell? ⟨p, 0, none⟩ = some (.pointer (some ⟨a, 0, none⟩)) ∧ W.cell? ⟨w.heap.size, 0, none⟩ = some (.int .u8 x.kind))
    ((refine HPS.out _ ?_; (repeat (first | with_reducible exact HK2A.out.up | with_reducible refine Keeps.alloc ?_ _ | with_reducible refine Keeps.drew ?_ | with_reducible refine Keeps.setCell ?_ (.inr ?_) _ | with_reducible refine Keeps.trans ?_ hk3)) <;> (dsimp only; omega)))
    (first | (go_at_call 93; refine (HA.out _ (by (repeat (first | with_reducible exact HK2.out | with_reducible refine Keeps.drewN ?_ _ | with_reducible refine Keeps.drew ?_ | with_reducible refine Keeps.alloc ?_ _)))).mono ?_; rintro e w3 ⟨rfl, hq3, hk3⟩; dsimp only [Rf.val]; have hkw : Keeps (foot3 LA LM b c k.s) w w3 := Keeps.trans (by (repeat (first | with_reducible exact HK2.out.up | with_reducible refine Keeps.drewN ?_ _ | with_reducible refine Keeps.drew ?_ | with_reducible refine Keeps.alloc ?_ _))) hk3; have hks := hkw.size; (first | (have nb := block_keep (show (World.drew (wz.alloc (.cells #[.int .i64 0, .int .u32 0] 39))).heap[wz.heap.size]? = _ from alloc_new) hk3 (fun hf => by have := HFT.out _ hf; omega); have nx := cells2 nb; obtain ⟨n0, n1, nf, nl⟩ := nx; have nf0 := nf 0; have nf1 := nf 1) | skip)))
  · obtain ⟨w4, hw4⟩ : ∃ w4, w3.alloc (.cells #[.int .i64 R.now.s, .int .u32 R.now.g] 39) = w4 := ⟨_, rfl⟩
    have hB : w4.heap[w3.heap.size]? = some (.cells #[.int .i64 R.now.s, .int .u32 R.now.g] 39) := by rw [← hw4]; exact alloc_new
    have lB : w.heap.size ≤ w3.heap.size := hks
    have hq4 : Quad w0 w4 a m b c LA LM ⟨⟨R.A, k.s.M⟩, k.C⟩ := by rw [← hw4]; exact hq3.same ((Keeps.refl _ _).alloc _)
    have hk4 : Keeps (foot3 LA LM b c k.s) w w4 := by rw [← hw4]; exact hkw.alloc _
    have HW4 := hid hw4
    clear hw4 hq3 hk3 hkw
    have hcs := hk4.size
    have HQ4 := hid hq4; have HK4 := hid hk4
    have HHS := hid (fun W (hk : Keeps (foot3 LA LM b c k.s) w4 W) => let q := cells2 (block_keep hB hk (fun hf => by have := HFT.out _ hf; omega)); And.intro (HPC.out W (HK4.out.trans hk)).1 (And.intro q.1 q.2.1))
    have HMR := hid (fun W (hk : Keeps (fun _ => False) w4 W) => cymarker (HQ4.out.same hk))
    clear hq4 hk4 hB
    go_upto_region 20 with (fail)
    rw [HW4.out]
    by_cases he : R.e = 0
    · have he1 : (R.e == 0) = true := by simpa using he
      have h0 := (HDI.out he).1
      have hT0 : (k.s.M.madeR R.now).1 = T := by have := HT.out; rwa [if_pos he] at this
      rw [h0, hT0, show ((0 : Int) == 0) = true from rfl] at HWR
      clear he h0 hT0
      go_region_held3 (fun W => W.cell? ⟨p, 1, none⟩ = some (.pointer (some ⟨c, 0, none⟩)) ∧ W.cell? ⟨w3.heap.size, 0, none⟩ = some (.int .i64 R.now.s) ∧ W.cell? ⟨w3.heap.size, 1, none⟩ = some (.int .u32 R.now.g))
        ((refine HHS.out _ ?_; (repeat (first | with_reducible exact Keeps.refl _ _ | with_reducible refine Keeps.drewN ?_ _ | with_reducible refine Keeps.drew ?_ | with_reducible refine Keeps.trans ?_ (by with_reducible assumption)))))
        (first
          | (go_at_call 95; refine (HMR.out _ (by (repeat (first | with_reducible exact Keeps.refl _ _ | with_reducible refine Keeps.drewN ?_ _ | with_reducible refine Keeps.drew ?_)))).mono ?_; rintro e w5 ⟨rfl, rfl⟩)
          | (go_at_call 94; refine (HWR.out _ (HQ4.out.same (by (repeat (first | with_reducible exact Keeps.refl _ _ | with_reducible refine Keeps.drewN ?_ _ | with_reducible refine Keeps.drew ?_))))).mono ?_; rintro e w6 ⟨rfl, hq6, hk6⟩))
      all_goals
        go_wp2_with fail
        go_end0
        exact ⟨rfl, HFIN.out _ _ (HK4.out.trans (Keeps.trans (Keeps.up (by (repeat (first | with_reducible exact Keeps.refl _ _ | with_reducible refine Keeps.drewN ?_ _ | with_reducible refine Keeps.drew ?_)))) hk6)) hq6⟩
    · have he1 : (R.e == 0) = false := by simpa using he
      have hT0 : k.s.M = T := by have := HT.out; rwa [if_neg he] at this
      have HQT := hid (show Quad w0 w4 a m b c LA LM ⟨⟨R.A, T⟩, k.C⟩ by rw [← hT0]; exact HQ4.out)
      clear he hT0
      go_quiet (fail)
      go_wp2_with fail
      go_end0
      exact ⟨rfl, HFIN.out _ _ (HK4.out.drewN _) (HQT.out.same ((Keeps.refl _ _).drewN _))⟩
  · obtain ⟨w4, hw4⟩ : ∃ w4, (w3.setCell ⟨wz.heap.size, 0, none⟩ (.int .i64 R.now.s)).setCell ⟨wz.heap.size, 1, none⟩ (.int .u32 R.now.g) = w4 := ⟨_, rfl⟩
    have hB : w4.heap[wz.heap.size]? = some (.cells #[.int .i64 R.now.s, .int .u32 R.now.g] 39) := by rw [← hw4]; exact fin2 nb
    have lB : w.heap.size ≤ wz.heap.size := hzw
    have hq4 : Quad w0 w4 a m b c LA LM ⟨⟨R.A, k.s.M⟩, k.C⟩ := by rw [← hw4]; exact HF.out _ _ _ hq3 HLK.out ((kfin0 _ _ _ _).mono (fun y _ h => by omega))
    have hk4 : Keeps (foot3 LA LM b c k.s) w w4 := by rw [← hw4]; exact kfin hkw hzw _ _
    have HW4 := hid hw4
    clear hw4 hq3 hk3 hkw nb n0 n1 nf nf0 nf1 nl
    have hcs := hk4.size
    have HQ4 := hid hq4; have HK4 := hid hk4
    have HHS := hid (fun W (hk : Keeps (foot3 LA LM b c k.s) w4 W) => let q := cells2 (block_keep hB hk (fun hf => by have := HFT.out _ hf; omega)); And.intro (HPC.out W (HK4.out.trans hk)).1 (And.intro q.1 q.2.1))
    have HMR := hid (fun W (hk : Keeps (fun _ => False) w4 W) => cymarker (HQ4.out.same hk))
    clear hq4 hk4 hB
    go_upto_region 20 with (fail)
    rw [HW4.out]
    by_cases he : R.e = 0
    · have he1 : (R.e == 0) = true := by simpa using he
      have h0 := (HDI.out he).1
      have hT0 : (k.s.M.madeR R.now).1 = T := by have := HT.out; rwa [if_pos he] at this
      rw [h0, hT0, show ((0 : Int) == 0) = true from rfl] at HWR
      clear he h0 hT0
      go_region_held3 (fun W => W.cell? ⟨p, 1, none⟩ = some (.pointer (some ⟨c, 0, none⟩)) ∧ W.cell? ⟨wz.heap.size, 0, none⟩ = some (.int .i64 R.now.s) ∧ W.cell? ⟨wz.heap.size, 1, none⟩ = some (.int .u32 R.now.g))
        ((refine HHS.out _ ?_; (repeat (first | with_reducible exact Keeps.refl _ _ | with_reducible refine Keeps.drewN ?_ _ | with_reducible refine Keeps.drew ?_ | with_reducible refine Keeps.trans ?_ (by with_reducible assumption)))))
        (first
          | (go_at_call 95; refine (HMR.out _ (by (repeat (first | with_reducible exact Keeps.refl _ _ | with_reducible refine Keeps.drewN ?_ _ | with_reducible refine Keeps.drew ?_)))).mono ?_; rintro e w5 ⟨rfl, rfl⟩)
          | (go_at_call 94; refine (HWR.out _ (HQ4.out.same (by (repeat (first | with_reducible exact Keeps.refl _ _ | with_reducible refine Keeps.drewN ?_ _ | with_reducible refine Keeps.drew ?_))))).mono ?_; rintro e w6 ⟨rfl, hq6, hk6⟩))
      all_goals
        go_wp2_with fail
        go_end0
        exact ⟨rfl, HFIN.out _ _ (HK4.out.trans (Keeps.trans (Keeps.up (by (repeat (first | with_reducible exact Keeps.refl _ _ | with_reducible refine Keeps.drewN ?_ _ | with_reducible refine Keeps.drew ?_)))) hk6)) hq6⟩
    · have he1 : (R.e == 0) = false := by simpa using he
      have hT0 : k.s.M = T := by have := HT.out; rwa [if_neg he] at this
      have HQT := hid (show Quad w0 w4 a m b c LA LM ⟨⟨R.A, T⟩, k.C⟩ by rw [← hT0]; exact HQ4.out)
      clear he hT0
      go_quiet (fail)
      go_wp2_with fail
      go_end0
      exact ⟨rfl, HFIN.out _ _ (HK4.out.drewN _) (HQT.out.same ((Keeps.refl _ _).drewN _))⟩
end Go.Proofs.YtnjgkhgdgpahfaaGreat
