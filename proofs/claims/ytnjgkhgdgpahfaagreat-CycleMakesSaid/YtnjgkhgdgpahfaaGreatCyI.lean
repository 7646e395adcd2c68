/- estraylaw26: turns that write: put, store, make. -/
import Derived.Test.YtnjgkhgdgpahfaaGreatCyH
namespace Go.Proofs.YtnjgkhgdgpahfaaGreat
open Go.RowKit
set_option linter.unusedVariables false
set_option linter.unusedSimpArgs false
set_option linter.unusedSectionVars false

variable {w0 w w' : World} {p a m b c : Nat} {LA : ArL} {LM : MkL} {k : Col} {f : List Rf}

theorem Quad.wrote (h : Quad w0 w a m b c LA LM k) (i : Int) (r q : Rf) : Calls Tryz.prog 98 #[.pointer (some ⟨m, 0, none⟩), .int .i64 i, .agg #[.int .i64 r.s, .int .u32 r.g], .agg #[.int .i64 q.s, .int .u32 q.g]] w
    fun e w' => e = .returned (.int .i64 (k.s.M.wroteR i r q).2) ∧ Quad w0 w' a m b c LA LM ⟨⟨k.s.A, (k.s.M.wroteR i r q).1⟩, k.C⟩ ∧ Keeps (foot3 LA LM b c k.s) w w' :=
  (duo_wrote_any h.tr.both i r q).mono fun e w' ⟨h1, h2⟩ => ⟨h1, h.mkF h2 (by rw [(Mk.wroteR_K k.s.M i r q).2]) (by rw [(Mk.wroteR_K k.s.M i r q).1])⟩
set_option maxRecDepth 100000 in
set_option maxHeartbeats 4000000 in
theorem turn_put7 (x : Mv) (h : Pair w0 w p a m b c LA LM k f) (hok : k.Ok) (hx : x.Byte) (hk : x.kind % 16 = 7) :
    Calls Tryz.prog 43 #[.pointer (some ⟨p, 0, none⟩), x.val] w fun e w' => e = .returned (.tuple #[]) ∧ Pair w0 w' p a m b c LA LM ⟨(x.mo26 k.s).doR k.s, k.C⟩ f ∧ PKeep w w' p (foot3 LA LM b c k.s) := by
  have hki : (x.kind : Int) % 16 = 7 := by omega
  have hmany := hok.s.m.k1; have hm4 := hok.s.m.k4
  obtain ⟨hb0, hb1, hb2, hb3, hb4⟩ := hx
  have hz : ¬ (k.s.M.K.many : Int) = 0 := by omega
  obtain ⟨mk, hmk⟩ : ∃ mk, x.m % k.s.M.K.many = mk := ⟨_, rfl⟩
  have hmkl : mk < k.s.M.K.many := by rw [← hmk]; exact Nat.mod_lt _ (by omega)
  have HMOD := hid (show (x.m : Int) % (k.s.M.K.many : Int) = (mk : Int) by rw [← hmk]; simp)
  obtain ⟨n, hn⟩ : ∃ n, (k.s.A.rt mk).l.length = n := ⟨_, rfl⟩
  have hn2 : (k.s.A.rt mk).n = n := by rw [← hn]; simp [Sk.l]
  obtain ⟨wA, hwA⟩ : ∃ wA, w.alloc (.cells #[.int .u8 x.kind, .int .u8 x.m, .int .u8 x.a, .int .u8 x.b, .int .u8 x.c] 100) = wA := ⟨_, rfl⟩
  have kA : Keeps (fun _ => False) w wA := by rw [← hwA]; exact (Keeps.refl _ _).alloc _
  have qA : wA.heap[w.heap.size]? = some (.cells #[.int .u8 x.kind, .int .u8 x.m, .int .u8 x.a, .int .u8 x.b, .int .u8 x.c] 100) := by rw [← hwA]; exact alloc_new
  obtain ⟨v, hown, hrow⟩ := h.ex
  have hfl := h.q.footlt
  have HCF := hid (fun W (hk : Keeps (foot3 LA LM b c k.s) wA W) => And.intro (cells5 (block_keep qA hk (fun hf => by have := hfl _ hf; omega))) (cells4 (block_keep (block_keep hown kA (fun h => h)) hk (h.q.pairfoot hown))))
  have HSZ := hid (fun W (hk : Keeps (fun _ => False) w W) => asizes_ok a LA k.s.A W (h.q.same hk).tr.both.ar)
  have HSA := hid (fun W (hk : Keeps (fun _ => False) w W) => astackall_ok a LA k.s.A mk W (h.q.same hk).tr.both.ar (by rw [hok.s.k]; exact hmkl))
  rw [hok.s.k] at HSZ
  have HQU := hid (fun W (hk : Keeps (fun _ => False) w W) => h.q.same hk)
  have HFIN := hid (fun W d (hk : Keeps (foot3 LA LM b c k.s) w W) (hd : Quad w0 W a m b c LA LM d) => h.fin hk hd)
  have HFT := hid hfl
  have HPC := hid (fun W (hk : Keeps (foot3 LA LM b c k.s) w W) => let q := cells4 (block_keep hown hk (h.q.pairfoot hown)); And.intro q.2.1 q.1)
  have HI := hid (fun (y : Nat) (hy : y < 256) W => index26 y n W hy)
  have hw0 := lt_block qA
  have HKA := hid kA; have HWA := hid hwA; have HN := hid hn; have HOK := hid hok; have HMK := hid hmk; have HN2 := hid hn2; have HMKL := hid hmkl
  obtain ⟨⟨y0, y1, y2, y3, y4, yl⟩, ⟨x0, x1, x2, x3, xl⟩⟩ := HCF.out wA (Keeps.refl _ _)
  clear hn hn2 hmk kA hwA qA hown hrow hfl h hok hmkl hmany
  have hmo : (x.mo26 k.s).doR k.s = Sys.told (k.s.A.putR mk (idx x.a n : Nat) (x.b % 8 : Nat)) k.s mk := by
    have : x.mo26 k.s = .put mk (idx x.a n : Nat) (x.b % 8 : Nat) := by unfold Mv.mo26; dsimp only; rw [hk, HMK.out, HN2.out]; rfl
    rw [this]; rfl
  rw [hmo]
  have HA := hid (fun W (hk : Keeps (fun _ => False) w W) => (aput_any a LA k.s.A mk (idx x.a n : Nat) (x.b % 8 : Nat) W (HQU.out W hk).tr.both.ar HOK.out.s.a).mono (fun e w' ⟨h1, h2, h3⟩ => And.intro h1 ((HQU.out W hk).arF h2 h3 (Ar.putR_n _ _ _ _).2)))
  have HDI := hid (did_putR HOK.out.s HOK.out.safe (k := mk) (by rw [HOK.out.s.k]; exact HMKL.out) (idx x.a n : Nat) (x.b % 8 : Nat)).2
  have hmy : (k.s.A.putR mk (idx x.a n : Nat) (x.b % 8 : Nat)).A.many = k.s.A.many := (Ar.putR_n _ _ _ _).2
  unfold Sys.told
  obtain ⟨R, hR⟩ : ∃ R, k.s.A.putR mk (idx x.a n : Nat) (x.b % 8 : Nat) = R := ⟨_, rfl⟩
  rw [hR] at HA HDI hmy ⊢
  have HWR := hid (fun W (hq : Quad w0 W a m b c LA LM ⟨⟨R.A, k.s.M⟩, k.C⟩) => hq.wrote mk R.was R.now)
  rw [foot3_of (s := k.s) (t := ⟨R.A, k.s.M⟩) hmy rfl] at HWR
  obtain ⟨T, hT⟩ : ∃ T, (if R.e = 0 then (k.s.M.wroteR mk R.was R.now).1 else k.s.M) = T := ⟨_, rfl⟩
  have HT := hid hT
  rw [hT]
  clear hk hmo hR hmy hT
  unfold Mv.val
  go_enter Tryz.func43, Tryz.ntmps43
  go_upto_region 1 with (fail)
  rw [HWA.out]
  go_wp2_with fail
  refine (HSZ.out _ HKA.out).mono ?_
  rintro e w1 ⟨rfl, k1⟩
  have HK1 := hid (HKA.out.trans k1)
  obtain ⟨⟨z0, z1, z2, z3, z4, zl⟩, ⟨u0, u1, u2, u3, ul⟩⟩ := HCF.out w1 k1.up
  have HK1A := hid k1
  clear k1 y0 y1 y2 y3 y4 yl x0 x1 x2 x3 xl
  go_wp2_with fail
  rw [HMOD.out]
  refine (HSA.out _ HK1.out).mono ?_
  rintro e w2 ⟨v5, rfl, hr5, k2⟩
  have hsh := own_shape hr5
  obtain ⟨p5, c5, hv5⟩ := hsh
  obtain rfl := hv5
  have HK2 := hid (HK1.out.trans k2)
  obtain ⟨⟨y0, y1, y2, y3, y4, yl⟩, ⟨x0, x1, x2, x3, xl⟩⟩ := HCF.out w2 (HK1A.out.trans k2).up
  have HK2A := hid (HK1A.out.trans k2)
  clear k2 hr5 z0 z1 z2 z3 z4 zl u0 u1 u2 u3 ul
  rw [HN.out]
  go_wp2_with fail
  go_quiet (first | (go_at_call 92; refine (HI.out _ (by assumption) _).mono ?_; rintro e w' ⟨rfl, rfl⟩; exact ⟨rfl, _, rfl⟩))
  obtain ⟨wq, hwq⟩ : ∃ wq, w2.drewN nq = wq := ⟨_, rfl⟩
  rw [hwq]
  have kq : Keeps (fun _ => False) w2 wq := by rw [← hwq]; exact (Keeps.refl _ _).drewN _
  obtain ⟨⟨z0, z1, z2, z3, z4, zl⟩, ⟨u0, u1, u2, u3, ul⟩⟩ := HCF.out wq (HK2A.out.trans kq).up
  have HKQ := hid (HK2.out.trans kq)
  have HKQA := hid (HK2A.out.trans kq)
  clear hwq kq y0 y1 y2 y3 y4 yl x0 x1 x2 x3 xl HK2 HK2A
  go_wp2_with fail
  go_quiet (fail)
  obtain ⟨wz, hwz⟩ : ∃ wz, wq.drewN nq = wz := ⟨_, rfl⟩
  rw [hwz]
  have kq : Keeps (fun _ => False) wq wz := by rw [← hwz]; exact (Keeps.refl _ _).drewN _
  obtain ⟨⟨y0, y1, y2, y3, y4, yl⟩, ⟨x0, x1, x2, x3, xl⟩⟩ := HCF.out wz (HKQA.out.trans kq).up
  have HK2 := hid (HKQ.out.trans kq)
  have HK2A := hid (HKQA.out.trans kq)
  clear hwz kq z0 z1 z2 z3 z4 zl u0 u1 u2 u3 ul HKQ HKQA
  go_wp2_with fail
  refine (HA.out _ (by (repeat (first | with_reducible exact HK2.out | with_reducible refine Keeps.drewN ?_ _ | with_reducible refine Keeps.drew ?_)))).mono ?_
  rintro e w3 ⟨rfl, hq3, hk3⟩
  dsimp only [Rf.val]
  have HK3 := hid (show Keeps (foot3 LA LM b c k.s) w w3 from Keeps.trans (Keeps.up (by (repeat (first | with_reducible exact HK2.out | with_reducible refine Keeps.drewN ?_ _ | with_reducible refine Keeps.drew ?_)))) hk3)
  have HKA3 := hid (show Keeps (foot3 LA LM b c k.s) wA w3 from Keeps.trans (Keeps.up (by (repeat (first | with_reducible exact HK2A.out | with_reducible refine Keeps.drewN ?_ _ | with_reducible refine Keeps.drew ?_)))) hk3)
  obtain ⟨w4, hw4⟩ : ∃ w4, (w3.alloc (.cells #[.int .i64 R.was.s, .int .u32 R.was.g] 39)).alloc (.cells #[.int .i64 R.now.s, .int .u32 R.now.g] 39) = w4 := ⟨_, rfl⟩
  have k4 : Keeps (fun _ => False) w3 w4 := by rw [← hw4]; exact ((Keeps.refl _ _).alloc _).alloc _
  have b4 : w4.heap[w3.heap.size]? = some (.cells #[.int .i64 R.was.s, .int .u32 R.was.g] 39) := by rw [← hw4]; exact alloc_old alloc_new
  have d4 : w4.heap[w3.heap.size + 1]? = some (.cells #[.int .i64 R.now.s, .int .u32 R.now.g] 39) := by rw [← hw4]; exact alloc_new' (by simp)
  have HQ4 := hid (hq3.same k4); have HK4 := hid (HK3.out.trans k4.up); have HW4 := hid hw4
  have hz3 := HK3.out.size
  have HHO := hid (fun W (hk : Keeps (foot3 LA LM b c k.s) w4 W) => And.intro (HPC.out W (HK3.out.trans (k4.up.trans hk))).1 (And.intro (cells2 (block_keep b4 hk (fun hf => by have := HFT.out _ hf; omega))) (cells2 (block_keep d4 hk (fun hf => by have := HFT.out _ hf; omega)))))
  have HHS := hid (fun W (hk : Keeps (foot3 LA LM b c k.s) w4 W) => And.intro (HHO.out W hk).1 (And.intro (HHO.out W hk).2.1.1 (And.intro (HHO.out W hk).2.1.2.1 (And.intro (HHO.out W hk).2.2.1 (HHO.out W hk).2.2.2.1))))
  have HMR := hid (fun W (hk : Keeps (fun _ => False) w4 W) => cymarker (HQ4.out.same hk))
  clear hq3 hk3 k4 b4 d4 hw4 y0 y1 y2 y3 y4 yl x0 x1 x2 x3 xl
  go_upto_region 39 with (fail)
  rw [HW4.out]
  by_cases he : R.e = 0
  · have he1 : (R.e == 0) = true := by simpa using he
    have h0 := HDI.out he
    have hT0 : (k.s.M.wroteR mk R.was R.now).1 = T := by have := HT.out; rwa [if_pos he] at this
    rw [h0, hT0] at HWR
    clear he h0 hT0
    go_region_held3 (fun W => W.cell? ⟨p, 1, none⟩ = some (.pointer (some ⟨c, 0, none⟩)) ∧ W.cell? ⟨w3.heap.size, 0, none⟩ = some (.int .i64 R.was.s) ∧ W.cell? ⟨w3.heap.size, 1, none⟩ = some (.int .u32 R.was.g) ∧ W.cell? ⟨w3.heap.size + 1, 0, none⟩ = some (.int .i64 R.now.s) ∧ W.cell? ⟨w3.heap.size + 1, 1, none⟩ = some (.int .u32 R.now.g))
      ((refine HHS.out _ ?_; (repeat (first | with_reducible exact Keeps.refl _ _ | with_reducible refine Keeps.drewN ?_ _ | with_reducible refine Keeps.drew ?_ | with_reducible refine Keeps.trans ?_ (by with_reducible assumption)))))
      (first
        | (go_at_call 95; refine (HMR.out _ (by (repeat (first | with_reducible exact Keeps.refl _ _ | with_reducible refine Keeps.drewN ?_ _ | with_reducible refine Keeps.drew ?_)))).mono ?_; rintro e w5 ⟨rfl, rfl⟩)
        | (go_at_call 98; refine (HWR.out _ (HQ4.out.same (by (repeat (first | with_reducible exact Keeps.refl _ _ | with_reducible refine Keeps.drewN ?_ _ | with_reducible refine Keeps.drew ?_))))).mono ?_; rintro e w6 ⟨rfl, hq6, hk6⟩))
    all_goals
      go_wp2_with fail
      go_end0
      exact ⟨rfl, HFIN.out _ _ (HK4.out.trans (Keeps.trans (Keeps.up (by (repeat (first | with_reducible exact Keeps.refl _ _ | with_reducible refine Keeps.drewN ?_ _ | with_reducible refine Keeps.drew ?_)))) hk6)) hq6⟩
  · have he1 : (R.e == 0) = false := by simpa using he
    have hT0 : k.s.M = T := by have := HT.out; rwa [if_neg he] at this
    have HQT := hid (show Quad w0 w4 a m b c LA LM ⟨⟨R.A, T⟩, k.C⟩ by rw [← hT0]; exact HQ4.out)
    clear he hT0
    go_quiet (fail)
    go_wp2_with fail
    go_end0
    exact ⟨rfl, HFIN.out _ _ (HK4.out.drewN _) (HQT.out.same ((Keeps.refl _ _).drewN _))⟩
set_option maxRecDepth 100000 in
set_option maxHeartbeats 4000000 in
theorem turn_put8 (x : Mv) (h : Pair w0 w p a m b c LA LM k f) (hok : k.Ok) (hx : x.Byte) (hk : x.kind % 16 = 8) :
    Calls Tryz.prog 43 #[.pointer (some ⟨p, 0, none⟩), x.val] w fun e w' => e = .returned (.tuple #[]) ∧ Pair w0 w' p a m b c LA LM ⟨(x.mo26 k.s).doR k.s, k.C⟩ f ∧ PKeep w w' p (foot3 LA LM b c k.s) := by
  have hki : (x.kind : Int) % 16 = 8 := by omega
  have hmany := hok.s.m.k1; have hm4 := hok.s.m.k4
  obtain ⟨hb0, hb1, hb2, hb3, hb4⟩ := hx
  have hz : ¬ (k.s.M.K.many : Int) = 0 := by omega
  obtain ⟨mk, hmk⟩ : ∃ mk, x.m % k.s.M.K.many = mk := ⟨_, rfl⟩
  have hmkl : mk < k.s.M.K.many := by rw [← hmk]; exact Nat.mod_lt _ (by omega)
  have HMOD := hid (show (x.m : Int) % (k.s.M.K.many : Int) = (mk : Int) by rw [← hmk]; simp)
  obtain ⟨n, hn⟩ : ∃ n, (k.s.A.rt mk).l.length = n := ⟨_, rfl⟩
  have hn2 : (k.s.A.rt mk).n = n := by rw [← hn]; simp [Sk.l]
  obtain ⟨wA, hwA⟩ : ∃ wA, w.alloc (.cells #[.int .u8 x.kind, .int .u8 x.m, .int .u8 x.a, .int .u8 x.b, .int .u8 x.c] 100) = wA := ⟨_, rfl⟩
  have kA : Keeps (fun _ => False) w wA := by rw [← hwA]; exact (Keeps.refl _ _).alloc _
  have qA : wA.heap[w.heap.size]? = some (.cells #[.int .u8 x.kind, .int .u8 x.m, .int .u8 x.a, .int .u8 x.b, .int .u8 x.c] 100) := by rw [← hwA]; exact alloc_new
  obtain ⟨v, hown, hrow⟩ := h.ex
  have hfl := h.q.footlt
  have HCF := hid (fun W (hk : Keeps (foot3 LA LM b c k.s) wA W) => And.intro (cells5 (block_keep qA hk (fun hf => by have := hfl _ hf; omega))) (cells4 (block_keep (block_keep hown kA (fun h => h)) hk (h.q.pairfoot hown))))
  have HSZ := hid (fun W (hk : Keeps (fun _ => False) w W) => asizes_ok a LA k.s.A W (h.q.same hk).tr.both.ar)
  have HSA := hid (fun W (hk : Keeps (fun _ => False) w W) => astackall_ok a LA k.s.A mk W (h.q.same hk).tr.both.ar (by rw [hok.s.k]; exact hmkl))
  rw [hok.s.k] at HSZ
  have HQU := hid (fun W (hk : Keeps (fun _ => False) w W) => h.q.same hk)
  have HFIN := hid (fun W d (hk : Keeps (foot3 LA LM b c k.s) w W) (hd : Quad w0 W a m b c LA LM d) => h.fin hk hd)
  have HFT := hid hfl
  have HPC := hid (fun W (hk : Keeps (foot3 LA LM b c k.s) w W) => let q := cells4 (block_keep hown hk (h.q.pairfoot hown)); And.intro q.2.1 q.1)
  have HI := hid (fun (y : Nat) (hy : y < 256) W => index26 y n W hy)
  have hw0 := lt_block qA
  have HKA := hid kA; have HWA := hid hwA; have HN := hid hn; have HOK := hid hok; have HMK := hid hmk; have HN2 := hid hn2; have HMKL := hid hmkl
  obtain ⟨⟨y0, y1, y2, y3, y4, yl⟩, ⟨x0, x1, x2, x3, xl⟩⟩ := HCF.out wA (Keeps.refl _ _)
  clear hn hn2 hmk kA hwA qA hown hrow hfl h hok hmkl hmany
  have hmo : (x.mo26 k.s).doR k.s = Sys.told (k.s.A.putR mk (-1) (x.b % 8 : Nat)) k.s mk := by
    have : x.mo26 k.s = .put mk (-1) (x.b % 8 : Nat) := by unfold Mv.mo26; dsimp only; rw [hk, HMK.out, HN2.out]; rfl
    rw [this]; rfl
  rw [hmo]
  have HA := hid (fun W (hk : Keeps (fun _ => False) w W) => (aput_any a LA k.s.A mk (-1) (x.b % 8 : Nat) W (HQU.out W hk).tr.both.ar HOK.out.s.a).mono (fun e w' ⟨h1, h2, h3⟩ => And.intro h1 ((HQU.out W hk).arF h2 h3 (Ar.putR_n _ _ _ _).2)))
  have HDI := hid (did_putR HOK.out.s HOK.out.safe (k := mk) (by rw [HOK.out.s.k]; exact HMKL.out) (-1) (x.b % 8 : Nat)).2
  have hmy : (k.s.A.putR mk (-1) (x.b % 8 : Nat)).A.many = k.s.A.many := (Ar.putR_n _ _ _ _).2
  unfold Sys.told
  obtain ⟨R, hR⟩ : ∃ R, k.s.A.putR mk (-1) (x.b % 8 : Nat) = R := ⟨_, rfl⟩
  rw [hR] at HA HDI hmy ⊢
  have HWR := hid (fun W (hq : Quad w0 W a m b c LA LM ⟨⟨R.A, k.s.M⟩, k.C⟩) => hq.wrote mk R.was R.now)
  rw [foot3_of (s := k.s) (t := ⟨R.A, k.s.M⟩) hmy rfl] at HWR
  obtain ⟨T, hT⟩ : ∃ T, (if R.e = 0 then (k.s.M.wroteR mk R.was R.now).1 else k.s.M) = T := ⟨_, rfl⟩
  have HT := hid hT
  rw [hT]
  clear hk hmo hR hmy hT
  unfold Mv.val
  go_enter Tryz.func43, Tryz.ntmps43
  go_upto_region 1 with (fail)
  rw [HWA.out]
  go_wp2_with fail
  refine (HSZ.out _ HKA.out).mono ?_
  rintro e w1 ⟨rfl, k1⟩
  have HK1 := hid (HKA.out.trans k1)
  obtain ⟨⟨z0, z1, z2, z3, z4, zl⟩, ⟨u0, u1, u2, u3, ul⟩⟩ := HCF.out w1 k1.up
  have HK1A := hid k1
  clear k1 y0 y1 y2 y3 y4 yl x0 x1 x2 x3 xl
  go_wp2_with fail
  rw [HMOD.out]
  refine (HSA.out _ HK1.out).mono ?_
  rintro e w2 ⟨v5, rfl, hr5, k2⟩
  have hsh := own_shape hr5
  obtain ⟨p5, c5, hv5⟩ := hsh
  obtain rfl := hv5
  have HK2 := hid (HK1.out.trans k2)
  obtain ⟨⟨y0, y1, y2, y3, y4, yl⟩, ⟨x0, x1, x2, x3, xl⟩⟩ := HCF.out w2 (HK1A.out.trans k2).up
  have HK2A := hid (HK1A.out.trans k2)
  clear k2 hr5 z0 z1 z2 z3 z4 zl u0 u1 u2 u3 ul
  rw [HN.out]
  go_wp2_with fail
  go_quiet (first | (go_at_call 92; refine (HI.out _ (by assumption) _).mono ?_; rintro e w' ⟨rfl, rfl⟩; exact ⟨rfl, _, rfl⟩))
  obtain ⟨wq, hwq⟩ : ∃ wq, w2.drewN nq = wq := ⟨_, rfl⟩
  rw [hwq]
  have kq : Keeps (fun _ => False) w2 wq := by rw [← hwq]; exact (Keeps.refl _ _).drewN _
  obtain ⟨⟨z0, z1, z2, z3, z4, zl⟩, ⟨u0, u1, u2, u3, ul⟩⟩ := HCF.out wq (HK2A.out.trans kq).up
  have HKQ := hid (HK2.out.trans kq)
  have HKQA := hid (HK2A.out.trans kq)
  clear hwq kq y0 y1 y2 y3 y4 yl x0 x1 x2 x3 xl HK2 HK2A
  go_wp2_with fail
  go_quiet (fail)
  obtain ⟨wz, hwz⟩ : ∃ wz, wq.drewN nq = wz := ⟨_, rfl⟩
  rw [hwz]
  have kq : Keeps (fun _ => False) wq wz := by rw [← hwz]; exact (Keeps.refl _ _).drewN _
  obtain ⟨⟨y0, y1, y2, y3, y4, yl⟩, ⟨x0, x1, x2, x3, xl⟩⟩ := HCF.out wz (HKQA.out.trans kq).up
  have HK2 := hid (HKQ.out.trans kq)
  have HK2A := hid (HKQA.out.trans kq)
  clear hwz kq z0 z1 z2 z3 z4 zl u0 u1 u2 u3 ul HKQ HKQA
  go_wp2_with fail
  refine (HA.out _ (by (repeat (first | with_reducible exact HK2.out | with_reducible refine Keeps.drewN ?_ _ | with_reducible refine Keeps.drew ?_)))).mono ?_
  rintro e w3 ⟨rfl, hq3, hk3⟩
  dsimp only [Rf.val]
  have HK3 := hid (show Keeps (foot3 LA LM b c k.s) w w3 from Keeps.trans (Keeps.up (by (repeat (first | with_reducible exact HK2.out | with_reducible refine Keeps.drewN ?_ _ | with_reducible refine Keeps.drew ?_)))) hk3)
  have HKA3 := hid (show Keeps (foot3 LA LM b c k.s) wA w3 from Keeps.trans (Keeps.up (by (repeat (first | with_reducible exact HK2A.out | with_reducible refine Keeps.drewN ?_ _ | with_reducible refine Keeps.drew ?_)))) hk3)
  obtain ⟨w4, hw4⟩ : ∃ w4, (w3.alloc (.cells #[.int .i64 R.was.s, .int .u32 R.was.g] 39)).alloc (.cells #[.int .i64 R.now.s, .int .u32 R.now.g] 39) = w4 := ⟨_, rfl⟩
  have k4 : Keeps (fun _ => False) w3 w4 := by rw [← hw4]; exact ((Keeps.refl _ _).alloc _).alloc _
  have b4 : w4.heap[w3.heap.size]? = some (.cells #[.int .i64 R.was.s, .int .u32 R.was.g] 39) := by rw [← hw4]; exact alloc_old alloc_new
  have d4 : w4.heap[w3.heap.size + 1]? = some (.cells #[.int .i64 R.now.s, .int .u32 R.now.g] 39) := by rw [← hw4]; exact alloc_new' (by simp)
  have HQ4 := hid (hq3.same k4); have HK4 := hid (HK3.out.trans k4.up); have HW4 := hid hw4
  have hz3 := HK3.out.size
  have HHO := hid (fun W (hk : Keeps (foot3 LA LM b c k.s) w4 W) => And.intro (HPC.out W (HK3.out.trans (k4.up.trans hk))).1 (And.intro (cells2 (block_keep b4 hk (fun hf => by have := HFT.out _ hf; omega))) (cells2 (block_keep d4 hk (fun hf => by have := HFT.out _ hf; omega)))))
  have HHS := hid (fun W (hk : Keeps (foot3 LA LM b c k.s) w4 W) => And.intro (HHO.out W hk).1 (And.intro (HHO.out W hk).2.1.1 (And.intro (HHO.out W hk).2.1.2.1 (And.intro (HHO.out W hk).2.2.1 (HHO.out W hk).2.2.2.1))))
  have HMR := hid (fun W (hk : Keeps (fun _ => False) w4 W) => cymarker (HQ4.out.same hk))
  clear hq3 hk3 k4 b4 d4 hw4 y0 y1 y2 y3 y4 yl x0 x1 x2 x3 xl
  go_upto_region 39 with (fail)
  rw [HW4.out]
  by_cases he : R.e = 0
  · have he1 : (R.e == 0) = true := by simpa using he
    have h0 := HDI.out he
    have hT0 : (k.s.M.wroteR mk R.was R.now).1 = T := by have := HT.out; rwa [if_pos he] at this
    rw [h0, hT0] at HWR
    clear he h0 hT0
    go_region_held3 (fun W => W.cell? ⟨p, 1, none⟩ = some (.pointer (some ⟨c, 0, none⟩)) ∧ W.cell? ⟨w3.heap.size, 0, none⟩ = some (.int .i64 R.was.s) ∧ W.cell? ⟨w3.heap.size, 1, none⟩ = some (.int .u32 R.was.g) ∧ W.cell? ⟨w3.heap.size + 1, 0, none⟩ = some (.int .i64 R.now.s) ∧ W.cell? ⟨w3.heap.size + 1, 1, none⟩ = some (.int .u32 R.now.g))
      ((refine HHS.out _ ?_; (repeat (first | with_reducible exact Keeps.refl _ _ | with_reducible refine Keeps.drewN ?_ _ | with_reducible refine Keeps.drew ?_ | with_reducible refine Keeps.trans ?_ (by with_reducible assumption)))))
      (first
        | (go_at_call 95; refine (HMR.out _ (by (repeat (first | with_reducible exact Keeps.refl _ _ | with_reducible refine Keeps.drewN ?_ _ | with_reducible refine Keeps.drew ?_)))).mono ?_; rintro e w5 ⟨rfl, rfl⟩)
        | (go_at_call 98; refine (HWR.out _ (HQ4.out.same (by (repeat (first | with_reducible exact Keeps.refl _ _ | with_reducible refine Keeps.drewN ?_ _ | with_reducible refine Keeps.drew ?_))))).mono ?_; rintro e w6 ⟨rfl, hq6, hk6⟩))
    all_goals
      go_wp2_with fail
      go_end0
      exact ⟨rfl, HFIN.out _ _ (HK4.out.trans (Keeps.trans (Keeps.up (by (repeat (first | with_reducible exact Keeps.refl _ _ | with_reducible refine Keeps.drewN ?_ _ | with_reducible refine Keeps.drew ?_)))) hk6)) hq6⟩
  · have he1 : (R.e == 0) = false := by simpa using he
    have hT0 : k.s.M = T := by have := HT.out; rwa [if_neg he] at this
    have HQT := hid (show Quad w0 w4 a m b c LA LM ⟨⟨R.A, T⟩, k.C⟩ by rw [← hT0]; exact HQ4.out)
    clear he hT0
    go_quiet (fail)
    go_wp2_with fail
    go_end0
    exact ⟨rfl, HFIN.out _ _ (HK4.out.drewN _) (HQT.out.same ((Keeps.refl _ _).drewN _))⟩
set_option maxRecDepth 100000 in
set_option maxHeartbeats 4000000 in
theorem turn_store3 (x : Mv) (h : Pair w0 w p a m b c LA LM k f) (hok : k.Ok) (hx : x.Byte) (hk : x.kind % 16 = 3) :
    Calls Tryz.prog 43 #[.pointer (some ⟨p, 0, none⟩), x.val] w fun e w' => e = .returned (.tuple #[]) ∧ Pair w0 w' p a m b c LA LM ⟨(x.mo26 k.s).doR k.s, k.C⟩ f ∧ PKeep w w' p (foot3 LA LM b c k.s) := by
  have hki : (x.kind : Int) % 16 = 3 := by omega
  have hmany := hok.s.m.k1; have hm4 := hok.s.m.k4
  obtain ⟨hb0, hb1, hb2, hb3, hb4⟩ := hx
  have hz : ¬ (k.s.M.K.many : Int) = 0 := by omega
  obtain ⟨mk, hmk⟩ : ∃ mk, x.m % k.s.M.K.many = mk := ⟨_, rfl⟩
  have hmkl : mk < k.s.M.K.many := by rw [← hmk]; exact Nat.mod_lt _ (by omega)
  have HMOD := hid (show (x.m : Int) % (k.s.M.K.many : Int) = (mk : Int) by rw [← hmk]; simp)
  obtain ⟨n, hn⟩ : ∃ n, (k.s.A.rt mk).l.length = n := ⟨_, rfl⟩
  have hn2 : (k.s.A.rt mk).n = n := by rw [← hn]; simp [Sk.l]
  obtain ⟨wA, hwA⟩ : ∃ wA, w.alloc (.cells #[.int .u8 x.kind, .int .u8 x.m, .int .u8 x.a, .int .u8 x.b, .int .u8 x.c] 100) = wA := ⟨_, rfl⟩
  have kA : Keeps (fun _ => False) w wA := by rw [← hwA]; exact (Keeps.refl _ _).alloc _
  have qA : wA.heap[w.heap.size]? = some (.cells #[.int .u8 x.kind, .int .u8 x.m, .int .u8 x.a, .int .u8 x.b, .int .u8 x.c] 100) := by rw [← hwA]; exact alloc_new
  obtain ⟨v, hown, hrow⟩ := h.ex
  have hfl := h.q.footlt
  have HCF := hid (fun W (hk : Keeps (foot3 LA LM b c k.s) wA W) => And.intro (cells5 (block_keep qA hk (fun hf => by have := hfl _ hf; omega))) (cells4 (block_keep (block_keep hown kA (fun h => h)) hk (h.q.pairfoot hown))))
  have HSZ := hid (fun W (hk : Keeps (fun _ => False) w W) => asizes_ok a LA k.s.A W (h.q.same hk).tr.both.ar)
  have HSA := hid (fun W (hk : Keeps (fun _ => False) w W) => astackall_ok a LA k.s.A mk W (h.q.same hk).tr.both.ar (by rw [hok.s.k]; exact hmkl))
  rw [hok.s.k] at HSZ
  have HQU := hid (fun W (hk : Keeps (fun _ => False) w W) => h.q.same hk)
  have HFIN := hid (fun W d (hk : Keeps (foot3 LA LM b c k.s) w W) (hd : Quad w0 W a m b c LA LM d) => h.fin hk hd)
  have HFT := hid hfl
  have HPC := hid (fun W (hk : Keeps (foot3 LA LM b c k.s) w W) => let q := cells4 (block_keep hown hk (h.q.pairfoot hown)); And.intro q.2.1 q.1)
  have HI := hid (fun (y : Nat) (hy : y < 256) W => index26 y n W hy)
  have hw0 := lt_block qA
  have HKA := hid kA; have HWA := hid hwA; have HN := hid hn; have HOK := hid hok; have HMK := hid hmk; have HN2 := hid hn2; have HMKL := hid hmkl
  obtain ⟨⟨y0, y1, y2, y3, y4, yl⟩, ⟨x0, x1, x2, x3, xl⟩⟩ := HCF.out wA (Keeps.refl _ _)
  clear hn hn2 hmk kA hwA qA hown hrow hfl h hok hmkl hmany
  have hmo : (x.mo26 k.s).doR k.s = Sys.told (k.s.A.storeR mk (idx x.a n : Nat) (x.b % 4 : Nat) (idx x.c n : Nat)) k.s mk := by
    have : x.mo26 k.s = .store mk (idx x.a n : Nat) (x.b % 4 : Nat) (idx x.c n : Nat) := by unfold Mv.mo26; dsimp only; rw [hk, HMK.out, HN2.out]; rfl
    rw [this]; rfl
  rw [hmo]
  have HA := hid (fun W (hk : Keeps (fun _ => False) w W) => (astore_any a LA k.s.A mk (idx x.a n : Nat) (x.b % 4 : Nat) (idx x.c n : Nat) W (HQU.out W hk).tr.both.ar HOK.out.s.a).mono (fun e w' ⟨h1, h2, h3⟩ => And.intro h1 ((HQU.out W hk).arF h2 h3 (Ar.storeR_n _ _ _ _ _).2)))
  have HDI := hid (did_storeR HOK.out.s HOK.out.safe (k := mk) (by rw [HOK.out.s.k]; exact HMKL.out) (idx x.a n : Nat) (x.b % 4 : Nat) (idx x.c n : Nat)).2
  have hmy : (k.s.A.storeR mk (idx x.a n : Nat) (x.b % 4 : Nat) (idx x.c n : Nat)).A.many = k.s.A.many := (Ar.storeR_n _ _ _ _ _).2
  unfold Sys.told
  obtain ⟨R, hR⟩ : ∃ R, k.s.A.storeR mk (idx x.a n : Nat) (x.b % 4 : Nat) (idx x.c n : Nat) = R := ⟨_, rfl⟩
  rw [hR] at HA HDI hmy ⊢
  have HWR := hid (fun W (hq : Quad w0 W a m b c LA LM ⟨⟨R.A, k.s.M⟩, k.C⟩) => hq.wrote mk R.was R.now)
  rw [foot3_of (s := k.s) (t := ⟨R.A, k.s.M⟩) hmy rfl] at HWR
  obtain ⟨T, hT⟩ : ∃ T, (if R.e = 0 then (k.s.M.wroteR mk R.was R.now).1 else k.s.M) = T := ⟨_, rfl⟩
  have HT := hid hT
  rw [hT]
  clear hk hmo hR hmy hT
  unfold Mv.val
  go_enter Tryz.func43, Tryz.ntmps43
  go_upto_region 1 with (fail)
  rw [HWA.out]
  go_wp2_with fail
  refine (HSZ.out _ HKA.out).mono ?_
  rintro e w1 ⟨rfl, k1⟩
  have HK1 := hid (HKA.out.trans k1)
  obtain ⟨⟨z0, z1, z2, z3, z4, zl⟩, ⟨u0, u1, u2, u3, ul⟩⟩ := HCF.out w1 k1.up
  have HK1A := hid k1
  clear k1 y0 y1 y2 y3 y4 yl x0 x1 x2 x3 xl
  go_wp2_with fail
  rw [HMOD.out]
  refine (HSA.out _ HK1.out).mono ?_
  rintro e w2 ⟨v5, rfl, hr5, k2⟩
  have hsh := own_shape hr5
  obtain ⟨p5, c5, hv5⟩ := hsh
  obtain rfl := hv5
  have HK2 := hid (HK1.out.trans k2)
  obtain ⟨⟨y0, y1, y2, y3, y4, yl⟩, ⟨x0, x1, x2, x3, xl⟩⟩ := HCF.out w2 (HK1A.out.trans k2).up
  have HK2A := hid (HK1A.out.trans k2)
  clear k2 hr5 z0 z1 z2 z3 z4 zl u0 u1 u2 u3 ul
  rw [HN.out]
  go_wp2_with fail
  go_quiet (first | (go_at_call 92; refine (HI.out _ (by assumption) _).mono ?_; rintro e w' ⟨rfl, rfl⟩; exact ⟨rfl, _, rfl⟩))
  obtain ⟨wq, hwq⟩ : ∃ wq, w2.drewN nq = wq := ⟨_, rfl⟩
  rw [hwq]
  have kq : Keeps (fun _ => False) w2 wq := by rw [← hwq]; exact (Keeps.refl _ _).drewN _
  obtain ⟨⟨z0, z1, z2, z3, z4, zl⟩, ⟨u0, u1, u2, u3, ul⟩⟩ := HCF.out wq (HK2A.out.trans kq).up
  have HKQ := hid (HK2.out.trans kq)
  have HKQA := hid (HK2A.out.trans kq)
  clear hwq kq y0 y1 y2 y3 y4 yl x0 x1 x2 x3 xl HK2 HK2A
  go_wp2_with fail
  go_quiet (fail)
  obtain ⟨wz, hwz⟩ : ∃ wz, wq.drewN nq = wz := ⟨_, rfl⟩
  rw [hwz]
  have kq : Keeps (fun _ => False) wq wz := by rw [← hwz]; exact (Keeps.refl _ _).drewN _
  obtain ⟨⟨y0, y1, y2, y3, y4, yl⟩, ⟨x0, x1, x2, x3, xl⟩⟩ := HCF.out wz (HKQA.out.trans kq).up
  have HK2 := hid (HKQ.out.trans kq)
  have HK2A := hid (HKQA.out.trans kq)
  clear hwz kq z0 z1 z2 z3 z4 zl u0 u1 u2 u3 ul HKQ HKQA
  go_wp2_with fail
  refine (HA.out _ (by (repeat (first | with_reducible exact HK2.out | with_reducible refine Keeps.drewN ?_ _ | with_reducible refine Keeps.drew ?_)))).mono ?_
  rintro e w3 ⟨rfl, hq3, hk3⟩
  dsimp only [Rf.val]
  have HK3 := hid (show Keeps (foot3 LA LM b c k.s) w w3 from Keeps.trans (Keeps.up (by (repeat (first | with_reducible exact HK2.out | with_reducible refine Keeps.drewN ?_ _ | with_reducible refine Keeps.drew ?_)))) hk3)
  have HKA3 := hid (show Keeps (foot3 LA LM b c k.s) wA w3 from Keeps.trans (Keeps.up (by (repeat (first | with_reducible exact HK2A.out | with_reducible refine Keeps.drewN ?_ _ | with_reducible refine Keeps.drew ?_)))) hk3)
  obtain ⟨w4, hw4⟩ : ∃ w4, (w3.alloc (.cells #[.int .i64 R.was.s, .int .u32 R.was.g] 39)).alloc (.cells #[.int .i64 R.now.s, .int .u32 R.now.g] 39) = w4 := ⟨_, rfl⟩
  have k4 : Keeps (fun _ => False) w3 w4 := by rw [← hw4]; exact ((Keeps.refl _ _).alloc _).alloc _
  have b4 : w4.heap[w3.heap.size]? = some (.cells #[.int .i64 R.was.s, .int .u32 R.was.g] 39) := by rw [← hw4]; exact alloc_old alloc_new
  have d4 : w4.heap[w3.heap.size + 1]? = some (.cells #[.int .i64 R.now.s, .int .u32 R.now.g] 39) := by rw [← hw4]; exact alloc_new' (by simp)
  have HQ4 := hid (hq3.same k4); have HK4 := hid (HK3.out.trans k4.up); have HW4 := hid hw4
  have hz3 := HK3.out.size
  have HHO := hid (fun W (hk : Keeps (foot3 LA LM b c k.s) w4 W) => And.intro (HPC.out W (HK3.out.trans (k4.up.trans hk))).1 (And.intro (cells2 (block_keep b4 hk (fun hf => by have := HFT.out _ hf; omega))) (cells2 (block_keep d4 hk (fun hf => by have := HFT.out _ hf; omega)))))
  have HHS := hid (fun W (hk : Keeps (foot3 LA LM b c k.s) w4 W) => And.intro (HHO.out W hk).1 (And.intro (HHO.out W hk).2.1.1 (And.intro (HHO.out W hk).2.1.2.1 (And.intro (HHO.out W hk).2.2.1 (HHO.out W hk).2.2.2.1))))
  have HMR := hid (fun W (hk : Keeps (fun _ => False) w4 W) => cymarker (HQ4.out.same hk))
  clear hq3 hk3 k4 b4 d4 hw4 y0 y1 y2 y3 y4 yl x0 x1 x2 x3 xl
  go_upto_region 30 with (fail)
  rw [HW4.out]
  by_cases he : R.e = 0
  · have he1 : (R.e == 0) = true := by simpa using he
    have h0 := HDI.out he
    have hT0 : (k.s.M.wroteR mk R.was R.now).1 = T := by have := HT.out; rwa [if_pos he] at this
    rw [h0, hT0] at HWR
    clear he h0 hT0
    go_region_held3 (fun W => W.cell? ⟨p, 1, none⟩ = some (.pointer (some ⟨c, 0, none⟩)) ∧ W.cell? ⟨w3.heap.size, 0, none⟩ = some (.int .i64 R.was.s) ∧ W.cell? ⟨w3.heap.size, 1, none⟩ = some (.int .u32 R.was.g) ∧ W.cell? ⟨w3.heap.size + 1, 0, none⟩ = some (.int .i64 R.now.s) ∧ W.cell? ⟨w3.heap.size + 1, 1, none⟩ = some (.int .u32 R.now.g))
      ((refine HHS.out _ ?_; (repeat (first | with_reducible exact Keeps.refl _ _ | with_reducible refine Keeps.drewN ?_ _ | with_reducible refine Keeps.drew ?_ | with_reducible refine Keeps.trans ?_ (by with_reducible assumption)))))
      (first
        | (go_at_call 95; refine (HMR.out _ (by (repeat (first | with_reducible exact Keeps.refl _ _ | with_reducible refine Keeps.drewN ?_ _ | with_reducible refine Keeps.drew ?_)))).mono ?_; rintro e w5 ⟨rfl, rfl⟩)
        | (go_at_call 98; refine (HWR.out _ (HQ4.out.same (by (repeat (first | with_reducible exact Keeps.refl _ _ | with_reducible refine Keeps.drewN ?_ _ | with_reducible refine Keeps.drew ?_))))).mono ?_; rintro e w6 ⟨rfl, hq6, hk6⟩))
    all_goals
      go_wp2_with fail
      go_end0
      exact ⟨rfl, HFIN.out _ _ (HK4.out.trans (Keeps.trans (Keeps.up (by (repeat (first | with_reducible exact Keeps.refl _ _ | with_reducible refine Keeps.drewN ?_ _ | with_reducible refine Keeps.drew ?_)))) hk6)) hq6⟩
  · have he1 : (R.e == 0) = false := by simpa using he
    have hT0 : k.s.M = T := by have := HT.out; rwa [if_neg he] at this
    have HQT := hid (show Quad w0 w4 a m b c LA LM ⟨⟨R.A, T⟩, k.C⟩ by rw [← hT0]; exact HQ4.out)
    clear he hT0
    go_quiet (fail)
    go_wp2_with fail
    go_end0
    exact ⟨rfl, HFIN.out _ _ (HK4.out.drewN _) (HQT.out.same ((Keeps.refl _ _).drewN _))⟩
set_option maxRecDepth 100000 in
set_option maxHeartbeats 4000000 in
theorem turn_store4 (x : Mv) (h : Pair w0 w p a m b c LA LM k f) (hok : k.Ok) (hx : x.Byte) (hk : x.kind % 16 = 4) :
    Calls Tryz.prog 43 #[.pointer (some ⟨p, 0, none⟩), x.val] w fun e w' => e = .returned (.tuple #[]) ∧ Pair w0 w' p a m b c LA LM ⟨(x.mo26 k.s).doR k.s, k.C⟩ f ∧ PKeep w w' p (foot3 LA LM b c k.s) := by
  have hki : (x.kind : Int) % 16 = 4 := by omega
  have hmany := hok.s.m.k1; have hm4 := hok.s.m.k4
  obtain ⟨hb0, hb1, hb2, hb3, hb4⟩ := hx
  have hz : ¬ (k.s.M.K.many : Int) = 0 := by omega
  obtain ⟨mk, hmk⟩ : ∃ mk, x.m % k.s.M.K.many = mk := ⟨_, rfl⟩
  have hmkl : mk < k.s.M.K.many := by rw [← hmk]; exact Nat.mod_lt _ (by omega)
  have HMOD := hid (show (x.m : Int) % (k.s.M.K.many : Int) = (mk : Int) by rw [← hmk]; simp)
  obtain ⟨n, hn⟩ : ∃ n, (k.s.A.rt mk).l.length = n := ⟨_, rfl⟩
  have hn2 : (k.s.A.rt mk).n = n := by rw [← hn]; simp [Sk.l]
  obtain ⟨wA, hwA⟩ : ∃ wA, w.alloc (.cells #[.int .u8 x.kind, .int .u8 x.m, .int .u8 x.a, .int .u8 x.b, .int .u8 x.c] 100) = wA := ⟨_, rfl⟩
  have kA : Keeps (fun _ => False) w wA := by rw [← hwA]; exact (Keeps.refl _ _).alloc _
  have qA : wA.heap[w.heap.size]? = some (.cells #[.int .u8 x.kind, .int .u8 x.m, .int .u8 x.a, .int .u8 x.b, .int .u8 x.c] 100) := by rw [← hwA]; exact alloc_new
  obtain ⟨v, hown, hrow⟩ := h.ex
  have hfl := h.q.footlt
  have HCF := hid (fun W (hk : Keeps (foot3 LA LM b c k.s) wA W) => And.intro (cells5 (block_keep qA hk (fun hf => by have := hfl _ hf; omega))) (cells4 (block_keep (block_keep hown kA (fun h => h)) hk (h.q.pairfoot hown))))
  have HSZ := hid (fun W (hk : Keeps (fun _ => False) w W) => asizes_ok a LA k.s.A W (h.q.same hk).tr.both.ar)
  have HSA := hid (fun W (hk : Keeps (fun _ => False) w W) => astackall_ok a LA k.s.A mk W (h.q.same hk).tr.both.ar (by rw [hok.s.k]; exact hmkl))
  rw [hok.s.k] at HSZ
  have HQU := hid (fun W (hk : Keeps (fun _ => False) w W) => h.q.same hk)
  have HFIN := hid (fun W d (hk : Keeps (foot3 LA LM b c k.s) w W) (hd : Quad w0 W a m b c LA LM d) => h.fin hk hd)
  have HFT := hid hfl
  have HPC := hid (fun W (hk : Keeps (foot3 LA LM b c k.s) w W) => let q := cells4 (block_keep hown hk (h.q.pairfoot hown)); And.intro q.2.1 q.1)
  have HI := hid (fun (y : Nat) (hy : y < 256) W => index26 y n W hy)
  have hw0 := lt_block qA
  have HKA := hid kA; have HWA := hid hwA; have HN := hid hn; have HOK := hid hok; have HMK := hid hmk; have HN2 := hid hn2; have HMKL := hid hmkl
  obtain ⟨⟨y0, y1, y2, y3, y4, yl⟩, ⟨x0, x1, x2, x3, xl⟩⟩ := HCF.out wA (Keeps.refl _ _)
  clear hn hn2 hmk kA hwA qA hown hrow hfl h hok hmkl hmany
  have hmo : (x.mo26 k.s).doR k.s = Sys.told (k.s.A.storeR mk (idx x.a n : Nat) (x.b % 4 : Nat) (idx x.c n : Nat)) k.s mk := by
    have : x.mo26 k.s = .store mk (idx x.a n : Nat) (x.b % 4 : Nat) (idx x.c n : Nat) := by unfold Mv.mo26; dsimp only; rw [hk, HMK.out, HN2.out]; rfl
    rw [this]; rfl
  rw [hmo]
  have HA := hid (fun W (hk : Keeps (fun _ => False) w W) => (astore_any a LA k.s.A mk (idx x.a n : Nat) (x.b % 4 : Nat) (idx x.c n : Nat) W (HQU.out W hk).tr.both.ar HOK.out.s.a).mono (fun e w' ⟨h1, h2, h3⟩ => And.intro h1 ((HQU.out W hk).arF h2 h3 (Ar.storeR_n _ _ _ _ _).2)))
  have HDI := hid (did_storeR HOK.out.s HOK.out.safe (k := mk) (by rw [HOK.out.s.k]; exact HMKL.out) (idx x.a n : Nat) (x.b % 4 : Nat) (idx x.c n : Nat)).2
  have hmy : (k.s.A.storeR mk (idx x.a n : Nat) (x.b % 4 : Nat) (idx x.c n : Nat)).A.many = k.s.A.many := (Ar.storeR_n _ _ _ _ _).2
  unfold Sys.told
  obtain ⟨R, hR⟩ : ∃ R, k.s.A.storeR mk (idx x.a n : Nat) (x.b % 4 : Nat) (idx x.c n : Nat) = R := ⟨_, rfl⟩
  rw [hR] at HA HDI hmy ⊢
  have HWR := hid (fun W (hq : Quad w0 W a m b c LA LM ⟨⟨R.A, k.s.M⟩, k.C⟩) => hq.wrote mk R.was R.now)
  rw [foot3_of (s := k.s) (t := ⟨R.A, k.s.M⟩) hmy rfl] at HWR
  obtain ⟨T, hT⟩ : ∃ T, (if R.e = 0 then (k.s.M.wroteR mk R.was R.now).1 else k.s.M) = T := ⟨_, rfl⟩
  have HT := hid hT
  rw [hT]
  clear hk hmo hR hmy hT
  unfold Mv.val
  go_enter Tryz.func43, Tryz.ntmps43
  go_upto_region 1 with (fail)
  rw [HWA.out]
  go_wp2_with fail
  refine (HSZ.out _ HKA.out).mono ?_
  rintro e w1 ⟨rfl, k1⟩
  have HK1 := hid (HKA.out.trans k1)
  obtain ⟨⟨z0, z1, z2, z3, z4, zl⟩, ⟨u0, u1, u2, u3, ul⟩⟩ := HCF.out w1 k1.up
  have HK1A := hid k1
  clear k1 y0 y1 y2 y3 y4 yl x0 x1 x2 x3 xl
  go_wp2_with fail
  rw [HMOD.out]
  refine (HSA.out _ HK1.out).mono ?_
  rintro e w2 ⟨v5, rfl, hr5, k2⟩
  have hsh := own_shape hr5
  obtain ⟨p5, c5, hv5⟩ := hsh
  obtain rfl := hv5
  have HK2 := hid (HK1.out.trans k2)
  obtain ⟨⟨y0, y1, y2, y3, y4, yl⟩, ⟨x0, x1, x2, x3, xl⟩⟩ := HCF.out w2 (HK1A.out.trans k2).up
  have HK2A := hid (HK1A.out.trans k2)
  clear k2 hr5 z0 z1 z2 z3 z4 zl u0 u1 u2 u3 ul
  rw [HN.out]
  go_wp2_with fail
  go_quiet (first | (go_at_call 92; refine (HI.out _ (by assumption) _).mono ?_; rintro e w' ⟨rfl, rfl⟩; exact ⟨rfl, _, rfl⟩))
  obtain ⟨wq, hwq⟩ : ∃ wq, w2.drewN nq = wq := ⟨_, rfl⟩
  rw [hwq]
  have kq : Keeps (fun _ => False) w2 wq := by rw [← hwq]; exact (Keeps.refl _ _).drewN _
  obtain ⟨⟨z0, z1, z2, z3, z4, zl⟩, ⟨u0, u1, u2, u3, ul⟩⟩ := HCF.out wq (HK2A.out.trans kq).up
  have HKQ := hid (HK2.out.trans kq)
  have HKQA := hid (HK2A.out.trans kq)
  clear hwq kq y0 y1 y2 y3 y4 yl x0 x1 x2 x3 xl HK2 HK2A
  go_wp2_with fail
  go_quiet (fail)
  obtain ⟨wz, hwz⟩ : ∃ wz, wq.drewN nq = wz := ⟨_, rfl⟩
  rw [hwz]
  have kq : Keeps (fun _ => False) wq wz := by rw [← hwz]; exact (Keeps.refl _ _).drewN _
  obtain ⟨⟨y0, y1, y2, y3, y4, yl⟩, ⟨x0, x1, x2, x3, xl⟩⟩ := HCF.out wz (HKQA.out.trans kq).up
  have HK2 := hid (HKQ.out.trans kq)
  have HK2A := hid (HKQA.out.trans kq)
  clear hwz kq z0 z1 z2 z3 z4 zl u0 u1 u2 u3 ul HKQ HKQA
  go_wp2_with fail
  refine (HA.out _ (by (repeat (first | with_reducible exact HK2.out | with_reducible refine Keeps.drewN ?_ _ | with_reducible refine Keeps.drew ?_)))).mono ?_
  rintro e w3 ⟨rfl, hq3, hk3⟩
  dsimp only [Rf.val]
  have HK3 := hid (show Keeps (foot3 LA LM b c k.s) w w3 from Keeps.trans (Keeps.up (by (repeat (first | with_reducible exact HK2.out | with_reducible refine Keeps.drewN ?_ _ | with_reducible refine Keeps.drew ?_)))) hk3)
  have HKA3 := hid (show Keeps (foot3 LA LM b c k.s) wA w3 from Keeps.trans (Keeps.up (by (repeat (first | with_reducible exact HK2A.out | with_reducible refine Keeps.drewN ?_ _ | with_reducible refine Keeps.drew ?_)))) hk3)
  obtain ⟨w4, hw4⟩ : ∃ w4, (w3.alloc (.cells #[.int .i64 R.was.s, .int .u32 R.was.g] 39)).alloc (.cells #[.int .i64 R.now.s, .int .u32 R.now.g] 39) = w4 := ⟨_, rfl⟩
  have k4 : Keeps (fun _ => False) w3 w4 := by rw [← hw4]; exact ((Keeps.refl _ _).alloc _).alloc _
  have b4 : w4.heap[w3.heap.size]? = some (.cells #[.int .i64 R.was.s, .int .u32 R.was.g] 39) := by rw [← hw4]; exact alloc_old alloc_new
  have d4 : w4.heap[w3.heap.size + 1]? = some (.cells #[.int .i64 R.now.s, .int .u32 R.now.g] 39) := by rw [← hw4]; exact alloc_new' (by simp)
  have HQ4 := hid (hq3.same k4); have HK4 := hid (HK3.out.trans k4.up); have HW4 := hid hw4
  have hz3 := HK3.out.size
  have HHO := hid (fun W (hk : Keeps (foot3 LA LM b c k.s) w4 W) => And.intro (HPC.out W (HK3.out.trans (k4.up.trans hk))).1 (And.intro (cells2 (block_keep b4 hk (fun hf => by have := HFT.out _ hf; omega))) (cells2 (block_keep d4 hk (fun hf => by have := HFT.out _ hf; omega)))))
  have HHS := hid (fun W (hk : Keeps (foot3 LA LM b c k.s) w4 W) => And.intro (HHO.out W hk).1 (And.intro (HHO.out W hk).2.1.1 (And.intro (HHO.out W hk).2.1.2.1 (And.intro (HHO.out W hk).2.2.1 (HHO.out W hk).2.2.2.1))))
  have HMR := hid (fun W (hk : Keeps (fun _ => False) w4 W) => cymarker (HQ4.out.same hk))
  clear hq3 hk3 k4 b4 d4 hw4 y0 y1 y2 y3 y4 yl x0 x1 x2 x3 xl
  go_upto_region 30 with (fail)
  rw [HW4.out]
  by_cases he : R.e = 0
  · have he1 : (R.e == 0) = true := by simpa using he
    have h0 := HDI.out he
    have hT0 : (k.s.M.wroteR mk R.was R.now).1 = T := by have := HT.out; rwa [if_pos he] at this
    rw [h0, hT0] at HWR
    clear he h0 hT0
    go_region_held3 (fun W => W.cell? ⟨p, 1, none⟩ = some (.pointer (some ⟨c, 0, none⟩)) ∧ W.cell? ⟨w3.heap.size, 0, none⟩ = some (.int .i64 R.was.s) ∧ W.cell? ⟨w3.heap.size, 1, none⟩ = some (.int .u32 R.was.g) ∧ W.cell? ⟨w3.heap.size + 1, 0, none⟩ = some (.int .i64 R.now.s) ∧ W.cell? ⟨w3.heap.size + 1, 1, none⟩ = some (.int .u32 R.now.g))
      ((refine HHS.out _ ?_; (repeat (first | with_reducible exact Keeps.refl _ _ | with_reducible refine Keeps.drewN ?_ _ | with_reducible refine Keeps.drew ?_ | with_reducible refine Keeps.trans ?_ (by with_reducible assumption)))))
      (first
        | (go_at_call 95; refine (HMR.out _ (by (repeat (first | with_reducible exact Keeps.refl _ _ | with_reducible refine Keeps.drewN ?_ _ | with_reducible refine Keeps.drew ?_)))).mono ?_; rintro e w5 ⟨rfl, rfl⟩)
        | (go_at_call 98; refine (HWR.out _ (HQ4.out.same (by (repeat (first | with_reducible exact Keeps.refl _ _ | with_reducible refine Keeps.drewN ?_ _ | with_reducible refine Keeps.drew ?_))))).mono ?_; rintro e w6 ⟨rfl, hq6, hk6⟩))
    all_goals
      go_wp2_with fail
      go_end0
      exact ⟨rfl, HFIN.out _ _ (HK4.out.trans (Keeps.trans (Keeps.up (by (repeat (first | with_reducible exact Keeps.refl _ _ | with_reducible refine Keeps.drewN ?_ _ | with_reducible refine Keeps.drew ?_)))) hk6)) hq6⟩
  · have he1 : (R.e == 0) = false := by simpa using he
    have hT0 : k.s.M = T := by have := HT.out; rwa [if_neg he] at this
    have HQT := hid (show Quad w0 w4 a m b c LA LM ⟨⟨R.A, T⟩, k.C⟩ by rw [← hT0]; exact HQ4.out)
    clear he hT0
    go_quiet (fail)
    go_wp2_with fail
    go_end0
    exact ⟨rfl, HFIN.out _ _ (HK4.out.drewN _) (HQT.out.same ((Keeps.refl _ _).drewN _))⟩
set_option maxRecDepth 100000 in
set_option maxHeartbeats 4000000 in
theorem turn_store5 (x : Mv) (h : Pair w0 w p a m b c LA LM k f) (hok : k.Ok) (hx : x.Byte) (hk : x.kind % 16 = 5) :
    Calls Tryz.prog 43 #[.pointer (some ⟨p, 0, none⟩), x.val] w fun e w' => e = .returned (.tuple #[]) ∧ Pair w0 w' p a m b c LA LM ⟨(x.mo26 k.s).doR k.s, k.C⟩ f ∧ PKeep w w' p (foot3 LA LM b c k.s) := by
  have hki : (x.kind : Int) % 16 = 5 := by omega
  have hmany := hok.s.m.k1; have hm4 := hok.s.m.k4
  obtain ⟨hb0, hb1, hb2, hb3, hb4⟩ := hx
  have hz : ¬ (k.s.M.K.many : Int) = 0 := by omega
  obtain ⟨mk, hmk⟩ : ∃ mk, x.m % k.s.M.K.many = mk := ⟨_, rfl⟩
  have hmkl : mk < k.s.M.K.many := by rw [← hmk]; exact Nat.mod_lt _ (by omega)
  have HMOD := hid (show (x.m : Int) % (k.s.M.K.many : Int) = (mk : Int) by rw [← hmk]; simp)
  obtain ⟨n, hn⟩ : ∃ n, (k.s.A.rt mk).l.length = n := ⟨_, rfl⟩
  have hn2 : (k.s.A.rt mk).n = n := by rw [← hn]; simp [Sk.l]
  obtain ⟨wA, hwA⟩ : ∃ wA, w.alloc (.cells #[.int .u8 x.kind, .int .u8 x.m, .int .u8 x.a, .int .u8 x.b, .int .u8 x.c] 100) = wA := ⟨_, rfl⟩
  have kA : Keeps (fun _ => False) w wA := by rw [← hwA]; exact (Keeps.refl _ _).alloc _
  have qA : wA.heap[w.heap.size]? = some (.cells #[.int .u8 x.kind, .int .u8 x.m, .int .u8 x.a, .int .u8 x.b, .int .u8 x.c] 100) := by rw [← hwA]; exact alloc_new
  obtain ⟨v, hown, hrow⟩ := h.ex
  have hfl := h.q.footlt
  have HCF := hid (fun W (hk : Keeps (foot3 LA LM b c k.s) wA W) => And.intro (cells5 (block_keep qA hk (fun hf => by have := hfl _ hf; omega))) (cells4 (block_keep (block_keep hown kA (fun h => h)) hk (h.q.pairfoot hown))))
  have HSZ := hid (fun W (hk : Keeps (fun _ => False) w W) => asizes_ok a LA k.s.A W (h.q.same hk).tr.both.ar)
  have HSA := hid (fun W (hk : Keeps (fun _ => False) w W) => astackall_ok a LA k.s.A mk W (h.q.same hk).tr.both.ar (by rw [hok.s.k]; exact hmkl))
  rw [hok.s.k] at HSZ
  have HQU := hid (fun W (hk : Keeps (fun _ => False) w W) => h.q.same hk)
  have HFIN := hid (fun W d (hk : Keeps (foot3 LA LM b c k.s) w W) (hd : Quad w0 W a m b c LA LM d) => h.fin hk hd)
  have HFT := hid hfl
  have HPC := hid (fun W (hk : Keeps (foot3 LA LM b c k.s) w W) => let q := cells4 (block_keep hown hk (h.q.pairfoot hown)); And.intro q.2.1 q.1)
  have HI := hid (fun (y : Nat) (hy : y < 256) W => index26 y n W hy)
  have hw0 := lt_block qA
  have HKA := hid kA; have HWA := hid hwA; have HN := hid hn; have HOK := hid hok; have HMK := hid hmk; have HN2 := hid hn2; have HMKL := hid hmkl
  obtain ⟨⟨y0, y1, y2, y3, y4, yl⟩, ⟨x0, x1, x2, x3, xl⟩⟩ := HCF.out wA (Keeps.refl _ _)
  clear hn hn2 hmk kA hwA qA hown hrow hfl h hok hmkl hmany
  have hmo : (x.mo26 k.s).doR k.s = Sys.told (k.s.A.storeR mk (idx x.a n : Nat) (x.b % 4 : Nat) (-1)) k.s mk := by
    have : x.mo26 k.s = .store mk (idx x.a n : Nat) (x.b % 4 : Nat) (-1) := by unfold Mv.mo26; dsimp only; rw [hk, HMK.out, HN2.out]; rfl
    rw [this]; rfl
  rw [hmo]
  have HA := hid (fun W (hk : Keeps (fun _ => False) w W) => (astore_any a LA k.s.A mk (idx x.a n : Nat) (x.b % 4 : Nat) (-1) W (HQU.out W hk).tr.both.ar HOK.out.s.a).mono (fun e w' ⟨h1, h2, h3⟩ => And.intro h1 ((HQU.out W hk).arF h2 h3 (Ar.storeR_n _ _ _ _ _).2)))
  have HDI := hid (did_storeR HOK.out.s HOK.out.safe (k := mk) (by rw [HOK.out.s.k]; exact HMKL.out) (idx x.a n : Nat) (x.b % 4 : Nat) (-1)).2
  have hmy : (k.s.A.storeR mk (idx x.a n : Nat) (x.b % 4 : Nat) (-1)).A.many = k.s.A.many := (Ar.storeR_n _ _ _ _ _).2
  unfold Sys.told
  obtain ⟨R, hR⟩ : ∃ R, k.s.A.storeR mk (idx x.a n : Nat) (x.b % 4 : Nat) (-1) = R := ⟨_, rfl⟩
  rw [hR] at HA HDI hmy ⊢
  have HWR := hid (fun W (hq : Quad w0 W a m b c LA LM ⟨⟨R.A, k.s.M⟩, k.C⟩) => hq.wrote mk R.was R.now)
  rw [foot3_of (s := k.s) (t := ⟨R.A, k.s.M⟩) hmy rfl] at HWR
  obtain ⟨T, hT⟩ : ∃ T, (if R.e = 0 then (k.s.M.wroteR mk R.was R.now).1 else k.s.M) = T := ⟨_, rfl⟩
  have HT := hid hT
  rw [hT]
  clear hk hmo hR hmy hT
  unfold Mv.val
  go_enter Tryz.func43, Tryz.ntmps43
  go_upto_region 1 with (fail)
  rw [HWA.out]
  go_wp2_with fail
  refine (HSZ.out _ HKA.out).mono ?_
  rintro e w1 ⟨rfl, k1⟩
  have HK1 := hid (HKA.out.trans k1)
  obtain ⟨⟨z0, z1, z2, z3, z4, zl⟩, ⟨u0, u1, u2, u3, ul⟩⟩ := HCF.out w1 k1.up
  have HK1A := hid k1
  clear k1 y0 y1 y2 y3 y4 yl x0 x1 x2 x3 xl
  go_wp2_with fail
  rw [HMOD.out]
  refine (HSA.out _ HK1.out).mono ?_
  rintro e w2 ⟨v5, rfl, hr5, k2⟩
  have hsh := own_shape hr5
  obtain ⟨p5, c5, hv5⟩ := hsh
  obtain rfl := hv5
  have HK2 := hid (HK1.out.trans k2)
  obtain ⟨⟨y0, y1, y2, y3, y4, yl⟩, ⟨x0, x1, x2, x3, xl⟩⟩ := HCF.out w2 (HK1A.out.trans k2).up
  have HK2A := hid (HK1A.out.trans k2)
  clear k2 hr5 z0 z1 z2 z3 z4 zl u0 u1 u2 u3 ul
  rw [HN.out]
  go_wp2_with fail
  go_quiet (first | (go_at_call 92; refine (HI.out _ (by assumption) _).mono ?_; rintro e w' ⟨rfl, rfl⟩; exact ⟨rfl, _, rfl⟩))
  obtain ⟨wq, hwq⟩ : ∃ wq, w2.drewN nq = wq := ⟨_, rfl⟩
  rw [hwq]
  have kq : Keeps (fun _ => False) w2 wq := by rw [← hwq]; exact (Keeps.refl _ _).drewN _
  obtain ⟨⟨z0, z1, z2, z3, z4, zl⟩, ⟨u0, u1, u2, u3, ul⟩⟩ := HCF.out wq (HK2A.out.trans kq).up
  have HKQ := hid (HK2.out.trans kq)
  have HKQA := hid (HK2A.out.trans kq)
  clear hwq kq y0 y1 y2 y3 y4 yl x0 x1 x2 x3 xl HK2 HK2A
  go_wp2_with fail
  go_quiet (fail)
  obtain ⟨wz, hwz⟩ : ∃ wz, wq.drewN nq = wz := ⟨_, rfl⟩
  rw [hwz]
  have kq : Keeps (fun _ => False) wq wz := by rw [← hwz]; exact (Keeps.refl _ _).drewN _
  obtain ⟨⟨y0, y1, y2, y3, y4, yl⟩, ⟨x0, x1, x2, x3, xl⟩⟩ := HCF.out wz (HKQA.out.trans kq).up
  have HK2 := hid (HKQ.out.trans kq)
  have HK2A := hid (HKQA.out.trans kq)
  clear hwz kq z0 z1 z2 z3 z4 zl u0 u1 u2 u3 ul HKQ HKQA
  go_wp2_with fail
  refine (HA.out _ (by (repeat (first | with_reducible exact HK2.out | with_reducible refine Keeps.drewN ?_ _ | with_reducible refine Keeps.drew ?_)))).mono ?_
  rintro e w3 ⟨rfl, hq3, hk3⟩
  dsimp only [Rf.val]
  have HK3 := hid (show Keeps (foot3 LA LM b c k.s) w w3 from Keeps.trans (Keeps.up (by (repeat (first | with_reducible exact HK2.out | with_reducible refine Keeps.drewN ?_ _ | with_reducible refine Keeps.drew ?_)))) hk3)
  have HKA3 := hid (show Keeps (foot3 LA LM b c k.s) wA w3 from Keeps.trans (Keeps.up (by (repeat (first | with_reducible exact HK2A.out | with_reducible refine Keeps.drewN ?_ _ | with_reducible refine Keeps.drew ?_)))) hk3)
  obtain ⟨w4, hw4⟩ : ∃ w4, (w3.alloc (.cells #[.int .i64 R.was.s, .int .u32 R.was.g] 39)).alloc (.cells #[.int .i64 R.now.s, .int .u32 R.now.g] 39) = w4 := ⟨_, rfl⟩
  have k4 : Keeps (fun _ => False) w3 w4 := by rw [← hw4]; exact ((Keeps.refl _ _).alloc _).alloc _
  have b4 : w4.heap[w3.heap.size]? = some (.cells #[.int .i64 R.was.s, .int .u32 R.was.g] 39) := by rw [← hw4]; exact alloc_old alloc_new
  have d4 : w4.heap[w3.heap.size + 1]? = some (.cells #[.int .i64 R.now.s, .int .u32 R.now.g] 39) := by rw [← hw4]; exact alloc_new' (by simp)
  have HQ4 := hid (hq3.same k4); have HK4 := hid (HK3.out.trans k4.up); have HW4 := hid hw4
  have hz3 := HK3.out.size
  have HHO := hid (fun W (hk : Keeps (foot3 LA LM b c k.s) w4 W) => And.intro (HPC.out W (HK3.out.trans (k4.up.trans hk))).1 (And.intro (cells2 (block_keep b4 hk (fun hf => by have := HFT.out _ hf; omega))) (cells2 (block_keep d4 hk (fun hf => by have := HFT.out _ hf; omega)))))
  have HHS := hid (fun W (hk : Keeps (foot3 LA LM b c k.s) w4 W) => And.intro (HHO.out W hk).1 (And.intro (HHO.out W hk).2.1.1 (And.intro (HHO.out W hk).2.1.2.1 (And.intro (HHO.out W hk).2.2.1 (HHO.out W hk).2.2.2.1))))
  have HMR := hid (fun W (hk : Keeps (fun _ => False) w4 W) => cymarker (HQ4.out.same hk))
  clear hq3 hk3 k4 b4 d4 hw4 y0 y1 y2 y3 y4 yl x0 x1 x2 x3 xl
  go_upto_region 30 with (fail)
  rw [HW4.out]
  by_cases he : R.e = 0
  · have he1 : (R.e == 0) = true := by simpa using he
    have h0 := HDI.out he
    have hT0 : (k.s.M.wroteR mk R.was R.now).1 = T := by have := HT.out; rwa [if_pos he] at this
    rw [h0, hT0] at HWR
    clear he h0 hT0
    go_region_held3 (fun W => W.cell? ⟨p, 1, none⟩ = some (.pointer (some ⟨c, 0, none⟩)) ∧ W.cell? ⟨w3.heap.size, 0, none⟩ = some (.int .i64 R.was.s) ∧ W.cell? ⟨w3.heap.size, 1, none⟩ = some (.int .u32 R.was.g) ∧ W.cell? ⟨w3.heap.size + 1, 0, none⟩ = some (.int .i64 R.now.s) ∧ W.cell? ⟨w3.heap.size + 1, 1, none⟩ = some (.int .u32 R.now.g))
      ((refine HHS.out _ ?_; (repeat (first | with_reducible exact Keeps.refl _ _ | with_reducible refine Keeps.drewN ?_ _ | with_reducible refine Keeps.drew ?_ | with_reducible refine Keeps.trans ?_ (by with_reducible assumption)))))
      (first
        | (go_at_call 95; refine (HMR.out _ (by (repeat (first | with_reducible exact Keeps.refl _ _ | with_reducible refine Keeps.drewN ?_ _ | with_reducible refine Keeps.drew ?_)))).mono ?_; rintro e w5 ⟨rfl, rfl⟩)
        | (go_at_call 98; refine (HWR.out _ (HQ4.out.same (by (repeat (first | with_reducible exact Keeps.refl _ _ | with_reducible refine Keeps.drewN ?_ _ | with_reducible refine Keeps.drew ?_))))).mono ?_; rintro e w6 ⟨rfl, hq6, hk6⟩))
    all_goals
      go_wp2_with fail
      go_end0
      exact ⟨rfl, HFIN.out _ _ (HK4.out.trans (Keeps.trans (Keeps.up (by (repeat (first | with_reducible exact Keeps.refl _ _ | with_reducible refine Keeps.drewN ?_ _ | with_reducible refine Keeps.drew ?_)))) hk6)) hq6⟩
  · have he1 : (R.e == 0) = false := by simpa using he
    have hT0 : k.s.M = T := by have := HT.out; rwa [if_neg he] at this
    have HQT := hid (show Quad w0 w4 a m b c LA LM ⟨⟨R.A, T⟩, k.C⟩ by rw [← hT0]; exact HQ4.out)
    clear he hT0
    go_quiet (fail)
    go_wp2_with fail
    go_end0
    exact ⟨rfl, HFIN.out _ _ (HK4.out.drewN _) (HQT.out.same ((Keeps.refl _ _).drewN _))⟩
end Go.Proofs.YtnjgkhgdgpahfaaGreat
