/- estraylaw24: systems: mutate, on. -/
import Derived.Test.YtehmoikbeflkaaaGreatMwA
namespace Go.Proofs.YtehmoikbeflkaaaGreat
open Go.RowKit Go.ChangeShapes Go.WideShapes Go.ChangeAt Go.Deep
set_option linter.unusedVariables false
set_option linter.unusedSimpArgs false
set_option linter.unusedSectionVars false
variable {w0 w w' : World} {p a m : Nat} {LA : ArL} {LM : MkL} {s : Sys} {lv : Value}

set_option maxRecDepth 100000 in
set_option maxHeartbeats 1000000 in
theorem mu_store3 (x : Tv) (h : Sy w0 w p a m LA LM s lv) (hok : s.Ok) (hx : x.Byte) (hk8 : x.kind % 8 = 3) :
    Calls Tryz.prog 133 #[.pointer (some ⟨p, 0, none⟩), x.val] w fun e w' => e = .returned (.tuple #[]) ∧ Sy w0 w' p a m LA LM ((x.mo s).doR s) lv ∧ Keeps (foot2 LA LM s) w w' := by
  have hki : (x.kind : Int) % 8 = 3 := by omega
  have hmany := hok.m.k1; have hm4 := hok.m.k4
  obtain ⟨hb0, hb1, hb2, hb3⟩ := hx
  have hz : ¬ (s.M.K.many : Int) = 0 := by omega
  obtain ⟨mk, hmk⟩ : ∃ mk, x.m % s.M.K.many = mk := ⟨_, rfl⟩
  have hmkl : mk < s.M.K.many := by rw [← hmk]; exact Nat.mod_lt _ (by omega)
  have HMOD := hid (show (x.m : Int) % (s.M.K.many : Int) = (mk : Int) by rw [← hmk]; simp)
  have HSA := hid (fun W (hk : Keeps (fun _ => False) w W) => astackall_ok a LA s.A mk W (Duo.same h.both hk).ar (by rw [hok.k]; exact hmkl))
  obtain ⟨n, hn⟩ : ∃ n, (s.A.rt mk).l.length = n := ⟨_, rfl⟩
  have hn2 : (s.A.rt mk).n = n := by rw [← hn]; simp [Sk.l]
  have hn32 : n ≤ 32 := by rw [← hn2]; exact (hok.a.rt mk (by rw [hok.k]; exact hmkl)).1
  obtain ⟨N, hN⟩ : ∃ N, max 1 n = N := ⟨_, rfl⟩
  have hN1 : 1 ≤ N ∧ N ≤ 32 := by omega
  have HMAX := hid (show max 1 (n : Int) = (N : Int) by omega)
  have hNz : ¬ (N : Int) = 0 := by omega
  have HN := hid hn
  obtain ⟨pa, hpa⟩ : ∃ pa, x.a % N = pa := ⟨_, rfl⟩
  obtain ⟨pb, hpb⟩ : ∃ pb, x.b % N = pb := ⟨_, rfl⟩
  have hpaN : pa < N := by rw [← hpa]; exact Nat.mod_lt _ (by omega)
  have HPA := hid (show (x.a : Int) % (N : Int) = (pa : Int) by rw [← hpa]; simp)
  have HPB := hid (show (x.b : Int) % (N : Int) = (pb : Int) by rw [← hpb]; simp)
  have hmo : x.mo s = (match x.kind % 8 with
    | 0 => .make mk (x.a % 5 : Nat) false
    | 1 => .load mk pa (x.b % 4 : Nat)
    | 2 => .store mk pa (x.b / 16 % 4 : Nat) pb
    | 3 => .store mk pa (x.b / 16 % 4 : Nat) pb
    | 4 => .store mk pa (x.b % 4 : Nat) (-1)
    | 5 => .drop mk pa
    | 6 => .put mk ((pa : Nat) - (x.b / 128 : Nat)) (x.b % 8 : Nat)
    | _ => .get mk (x.b % 8 : Nat)) := by
    unfold Tv.mo
    dsimp only
    rw [hmk, hn2, hN, hpa, hpb]
    all_goals rfl
  obtain ⟨wA, hwA⟩ : ∃ wA, w.alloc (.cells #[.int .u8 x.kind, .int .u8 x.m, .int .u8 x.a, .int .u8 x.b] 78) = wA := ⟨_, rfl⟩
  have kA : Keeps (fun _ => False) w wA := by rw [← hwA]; exact (Keeps.refl _ _).alloc _
  have qA : wA.heap[w.heap.size]? = some (.cells #[.int .u8 x.kind, .int .u8 x.m, .int .u8 x.a, .int .u8 x.b] 78) := by rw [← hwA]; exact alloc_new
  have hfl := h.both.footlt
  have HKA := hid kA; have HWA := hid hwA; have HH := hid h; have HFL := hid hfl; have HOK := hid hok
  have HCF := hid (fun W (hk : Keeps (foot2 LA LM s) wA W) => And.intro (cells4 (block_keep qA hk (fun hf => by have := hfl _ hf; omega))) (cells4 (block_keep (block_keep h.own kA (fun h => h)) hk h.pfoot)))
  have hw0 := lt_block qA
  obtain ⟨⟨b0, b1, b2, b3, bl⟩, ⟨x0, x1, x2, x3, xl⟩⟩ := HCF.out wA (Keeps.refl _ _)
  clear hwA kA qA hn hn2 hN hmk hfl hpa hpb hmkl h hok
  obtain ⟨qa, hqa⟩ : ∃ qa, x.b / 16 = qa := ⟨_, rfl⟩
  obtain ⟨qb, hqb⟩ : ∃ qb, qa % 4 = qb := ⟨_, rfl⟩
  have hd1 : (x.b : Int) / 16 = (qa : Int) := by omega
  have hd2 : (x.b : Int).tdiv 16 = (qa : Int) := by rw [Int.tdiv_eq_ediv_of_nonneg (by omega)]; exact hd1
  have hwa : IntKind.i64.wrap (qa : Int) = (qa : Int) := IntWalk.i64_in _ (by omega)
  have hwu : IntKind.u8.wrap (qa : Int) = (qa : Int) := u8_wrap (by omega)
  have hq1 : (qa : Int) % 4 = (qb : Int) := by omega
  have hq2 : (qa : Int).tmod 4 = (qb : Int) := by rw [Int.tmod_eq_emod_of_nonneg (by omega)]; exact hq1
  have HEQ := hid (show x.b / 16 % 4 = qb by rw [hqa, hqb])
  clear hqa hqb
  have hmo' : (x.mo s).doR s = Sys.told (s.A.storeR mk pa qb pb) s mk := by rw [hmo, hk8, HEQ.out]; rfl
  rw [hmo']
  have HA := hid (fun W (hk : Keeps (fun _ => False) w W) => (HH.out.same hk).store HOK.out mk pa qb pb)
  have hmy : (s.A.storeR mk pa qb pb).A.many = s.A.many := (Ar.storeR_n s.A _ _ _ _).2
  unfold Sys.told
  obtain ⟨R, hR⟩ : ∃ R, s.A.storeR mk pa qb pb = R := ⟨_, rfl⟩
  rw [hR] at HA hmy ⊢
  have HFE := hid (HH.out.foot hmy)
  have HFX := hid (show ∀ B : Nat, w.heap.size ≤ B → ¬ foot2 LA LM ⟨R.A, s.M⟩ B from fun B hl hf => by rw [HH.out.foot hmy] at hf; have := HFL.out _ hf; omega)
  have HF := hid (fun W' {W : World} (hW : Sy w0 W p a m LA LM ⟨R.A, s.M⟩ lv) (hk : Keeps (fun y => w.heap.size ≤ y) W W') => HH.out.far hW hmy rfl hk)
  obtain ⟨T, hT⟩ : ∃ T, (if R.e = 0 then (s.M.wroteR mk R.was R.now).1 else s.M) = T := ⟨_, rfl⟩
  have HT := hid hT
  rw [hT]
  clear hT hmo hmo' hk8 hR hmy
  unfold Tv.val
  go_enter Tryz.func133, Tryz.ntmps133
  go_upto_region 1 with (fail)
  rw [HWA.out]
  go_quiet (fail)
  rw [HMOD.out]
  obtain ⟨wB, hwB⟩ : ∃ wB, wA.drewN nq = wB := ⟨_, rfl⟩
  rw [hwB]
  have kB : Keeps (fun _ => False) wA wB := by rw [← hwB]; exact (Keeps.refl _ _).drewN _
  have HKB := hid kB
  obtain ⟨⟨z0, z1, z2, z3, zl⟩, ⟨u0, u1, u2, u3, ul⟩⟩ := HCF.out wB kB.up
  clear hwB kB b0 b1 b2 b3 bl x0 x1 x2 x3 xl
  go_wp2_with fail
  refine (HSA.out _ (HKA.out.trans HKB.out)).mono ?_
  rintro e w1 ⟨v5, rfl, hr5, k5⟩
  obtain ⟨p5, c5, hv5⟩ := own_shape hr5
  obtain rfl := hv5
  have HK1 := hid (HKB.out.trans k5)
  obtain ⟨⟨b0, b1, b2, b3, bl⟩, ⟨x0, x1, x2, x3, xl⟩⟩ := HCF.out w1 (HKB.out.trans k5).up
  rw [HN.out]
  clear k5 hr5 z0 z1 z2 z3 zl u0 u1 u2 u3 ul
  go_upto_region 3 with (fail)
  go_cut [7] (fun s7 wx => s7 = .int .i64 N ∧ wx = w1)
  case first =>
    go_wp2_with fail
    all_goals
      go_meet
      refine ⟨?_, rfl⟩
      congr 1
      have hmx := HMAX.out
      omega
  case rest =>
  obtain ⟨rfl, hwc⟩ := hcut
  rw [hwc]
  clear hwc
  go_wp2_with fail
  go_quiet (fail)
  rw [HPA.out, HPB.out]
  obtain ⟨wz, hwz⟩ : ∃ wz, w1.drewN nq = wz := ⟨_, rfl⟩
  rw [hwz]
  have kz : Keeps (fun _ => False) w1 wz := by rw [← hwz]; exact (Keeps.refl _ _).drewN _
  have HKZ := hid (HK1.out.trans kz)
  have HKW := hid (HKA.out.trans (HK1.out.trans kz))
  obtain ⟨⟨z0, z1, z2, z3, zl⟩, ⟨u0, u1, u2, u3, ul⟩⟩ := HCF.out wz (HK1.out.trans kz).up
  clear hwz kz b0 b1 b2 b3 bl x0 x1 x2 x3 xl
  go_wp2_with fail
  have HPS := hid (fun W (hk : Keeps (foot2 LA LM s) wA W) => And.intro (HCF.out W hk).2.1 (HCF.out W hk).1.2.2.2.1)
  have hzw := HKW.out.size; have hzA := HKZ.out.size
  clear z0 z1 z2 z3 zl u0 u1 u2 u3 ul
  go_upto_region 15 with (fail)
  go_cut [12, 13, 14] from 21 (fun s1 s2 s3 wx => ∃ B1 B2, s1 = .pointer (some ⟨B1, 0, none⟩) ∧ s2 = .pointer (some ⟨B2, 0, none⟩) ∧ s3 = .int .i64 R.e ∧ wx.heap[B1]? = some (.cells #[.int .i64 R.was.s, .int .u32 R.was.g] 33) ∧ wx.heap[B2]? = some (.cells #[.int .i64 R.now.s, .int .u32 R.now.g] 33) ∧ w.heap.size ≤ B1 ∧ w.heap.size ≤ B2 ∧ Sy w0 wx p a m LA LM ⟨R.A, s.M⟩ lv ∧ Keeps (foot2 LA LM s) w wx)
  case first =>
    go_region_held3 (fun W => W.cell? ⟨p, 0, none⟩ = some (.pointer (some ⟨a, 0, none⟩)) ∧ W.cell? ⟨w.heap.size, 3, none⟩ = some (.int .u8 x.b))
      ((refine HPS.out _ ?_; (repeat (first | with_reducible exact HKZ.out.up | with_reducible refine Keeps.alloc ?_ _ | with_reducible refine Keeps.drewN ?_ _ | with_reducible refine Keeps.drew ?_ | with_reducible refine Keeps.setCell ?_ (.inr ?_) _ | with_reducible refine Keeps.trans ?_ hk3)) <;> (dsimp only; omega)))
      (first | (go_at_call 103; refine (HA.out _ (by (repeat (first | with_reducible exact HKW.out | with_reducible refine Keeps.drewN ?_ _ | with_reducible refine Keeps.drew ?_ | with_reducible refine Keeps.alloc ?_ _)))).mono ?_; rintro e w3 ⟨rfl, hs3, hk3⟩; dsimp only [Rf.val]; have hkw : Keeps (foot2 LA LM s) w w3 := Keeps.trans (by (repeat (first | with_reducible exact HKW.out.up | with_reducible refine Keeps.drewN ?_ _ | with_reducible refine Keeps.drew ?_ | with_reducible refine Keeps.alloc ?_ _))) hk3; have hks := hkw.size; (first | (have nb := block_keep (show (World.drew ((wz.alloc (.cells #[.int .i64 0, .int .u32 0] 33)).alloc (.cells #[.int .i64 0, .int .u32 0] 33))).heap[wz.heap.size]? = _ from alloc_old alloc_new) hk3 (fun hf => by have := HFL.out _ hf; omega); have nc := block_keep (show (World.drew ((wz.alloc (.cells #[.int .i64 0, .int .u32 0] 33)).alloc (.cells #[.int .i64 0, .int .u32 0] 33))).heap[wz.heap.size + 1]? = _ from alloc_new' (by simp)) hk3 (fun hf => by have := HFL.out _ hf; omega); have nx := cells2 nb; obtain ⟨n0, n1, nf, nl⟩ := nx; have nf0 := nf 0; have nf1 := nf 1; have ny := cells2 nc; obtain ⟨m0, m1, mf, ml⟩ := ny; have mf0 := mf 0; have mf1 := mf 1) | (have nb := block_keep (show (World.drew (wz.alloc (.cells #[.int .i64 0, .int .u32 0] 33))).heap[wz.heap.size]? = _ from alloc_new) hk3 (fun hf => by have := HFL.out _ hf; omega); have nx := cells2 nb; obtain ⟨n0, n1, nf, nl⟩ := nx; have nf0 := nf 0; have nf1 := nf 1) | skip)))
    all_goals
      go_wp2_with fail
      go_meet
      refine ⟨_, _, rfl, rfl, rfl, ?_, ?_, ?_, ?_, ?_, ?_⟩
      · try dsimp only [Ob.arr]
        repeat (first | (with_reducible assumption) | (with_reducible refine alloc_new' ?_; simp; done) | (with_reducible refine alloc_old ?_) | (with_reducible apply fin10) | (with_reducible apply fin2) | (with_reducible refine set_oth2 ?_ ?_; focus (first | (simp; done) | (dsimp only; omega))))
      · try dsimp only [Ob.arr]
        repeat (first | (with_reducible assumption) | (with_reducible refine alloc_new' ?_; simp; done) | (with_reducible refine alloc_old ?_) | (with_reducible apply fin10) | (with_reducible apply fin2) | (with_reducible refine set_oth2 ?_ ?_; focus (first | (simp; done) | (dsimp only; omega))))
      · omega
      · omega
      · refine HF.out _ hs3 ?_
        repeat (first | (with_reducible exact (Keeps.refl _ _)) | with_reducible refine Keeps.setCell ?_ ?_ _ | with_reducible refine Keeps.alloc ?_ _ | with_reducible refine Keeps.drewN ?_ _ | with_reducible refine Keeps.drew ?_)
        all_goals first | (left; simp; done) | (left; simp; omega) | (right; simp; done) | (right; simp; omega)
      · repeat (first | (with_reducible exact hkw) | with_reducible refine Keeps.setCell ?_ ?_ _ | with_reducible refine Keeps.alloc ?_ _ | with_reducible refine Keeps.drewN ?_ _ | with_reducible refine Keeps.drew ?_)
        all_goals first | (left; simp; done) | (left; simp; omega) | (right; simp; done) | (right; simp; omega)
  case rest =>
  obtain ⟨B1, B2, rfl, rfl, rfl, hb1, hb2, hl1, hl2, hs4, hk4⟩ := hcut
  obtain ⟨w4, hw4⟩ : ∃ w4, wc = w4 := ⟨_, rfl⟩
  rw [hw4] at hb1 hb2 hs4 hk4 ⊢
  clear hw4
  have HS4 := hid hs4; have HK4 := hid hk4; have HB1 := hid hb1; have HB2 := hid hb2
  obtain ⟨x0, x1, x2, x3, xl⟩ := cells4 hs4.own
  obtain ⟨y0, y1, _, yl⟩ := cells2 hb1
  obtain ⟨z0, z1, _, zl⟩ := cells2 hb2
  clear hb1 hb2 hs4 hk4
  by_cases he : R.e = 0
  · have he1 : (R.e == 0) = true := by simpa using he
    have HT0 := hid (show (s.M.wroteR mk R.was R.now).1 = T from by have h := HT.out; rwa [if_pos he] at h)
    rw [he]
    have HWR := hid (fun W (hk : Keeps (fun _ => False) w4 W) => (HS4.out.same hk).wrote mk R.was R.now)
    clear he he1
    go_upto_region 17 with (fail)
    go_region_held3 (fun W => W.cell? ⟨p, 1, none⟩ = some (.pointer (some ⟨m, 0, none⟩)) ∧ W.cell? ⟨B1, 0, none⟩ = some (.int .i64 R.was.s) ∧ W.cell? ⟨B1, 1, none⟩ = some (.int .u32 R.was.g) ∧ W.cell? ⟨B2, 0, none⟩ = some (.int .i64 R.now.s) ∧ W.cell? ⟨B2, 1, none⟩ = some (.int .u32 R.now.g))
      ((first | exact ⟨x1, y0, y1, z0, z1⟩ | exact hc6))
      (first | (go_at_call 175; refine (HWR.out _ (Keeps.refl _ _).drew).mono ?_; rintro e w6 ⟨⟨v6, rfl⟩, hs6, hk6⟩; have hc6 : w6.cell? ⟨p, 1, none⟩ = some (.pointer (some ⟨m, 0, none⟩)) ∧ w6.cell? ⟨B1, 0, none⟩ = some (.int .i64 R.was.s) ∧ w6.cell? ⟨B1, 1, none⟩ = some (.int .u32 R.was.g) ∧ w6.cell? ⟨B2, 0, none⟩ = some (.int .i64 R.now.s) ∧ w6.cell? ⟨B2, 1, none⟩ = some (.int .u32 R.now.g) := ⟨(cells4 hs6.own).2.1, (cells2 (block_keep (w := w4.drew) HB1.out hk6 (HFX.out _ hl1))).1, (cells2 (block_keep (w := w4.drew) HB1.out hk6 (HFX.out _ hl1))).2.1, (cells2 (block_keep (w := w4.drew) HB2.out hk6 (HFX.out _ hl2))).1, (cells2 (block_keep (w := w4.drew) HB2.out hk6 (HFX.out _ hl2))).2.1⟩))
    all_goals
      go_wp2_with fail
      go_end0
      exact ⟨rfl, HT0.out ▸ hs6, HK4.out.trans (HFE.out ▸ ((Keeps.refl _ _).drew.trans hk6))⟩
  · have he1 : (R.e == 0) = false := by simpa using he
    have HT0 := hid (show s.M = T from by have h := HT.out; rwa [if_neg he] at h)
    clear he
    go_wp2_with fail
    go_end0
    exact ⟨rfl, HT0.out ▸ HS4.out, HK4.out⟩
set_option maxRecDepth 100000 in
set_option maxHeartbeats 1000000 in
theorem mu_put (x : Tv) (h : Sy w0 w p a m LA LM s lv) (hok : s.Ok) (hx : x.Byte) (hk8 : x.kind % 8 = 6) :
    Calls Tryz.prog 133 #[.pointer (some ⟨p, 0, none⟩), x.val] w fun e w' => e = .returned (.tuple #[]) ∧ Sy w0 w' p a m LA LM ((x.mo s).doR s) lv ∧ Keeps (foot2 LA LM s) w w' := by
  have hki : (x.kind : Int) % 8 = 6 := by omega
  have hmany := hok.m.k1; have hm4 := hok.m.k4
  obtain ⟨hb0, hb1, hb2, hb3⟩ := hx
  have hz : ¬ (s.M.K.many : Int) = 0 := by omega
  obtain ⟨mk, hmk⟩ : ∃ mk, x.m % s.M.K.many = mk := ⟨_, rfl⟩
  have hmkl : mk < s.M.K.many := by rw [← hmk]; exact Nat.mod_lt _ (by omega)
  have HMOD := hid (show (x.m : Int) % (s.M.K.many : Int) = (mk : Int) by rw [← hmk]; simp)
  have HSA := hid (fun W (hk : Keeps (fun _ => False) w W) => astackall_ok a LA s.A mk W (Duo.same h.both hk).ar (by rw [hok.k]; exact hmkl))
  obtain ⟨n, hn⟩ : ∃ n, (s.A.rt mk).l.length = n := ⟨_, rfl⟩
  have hn2 : (s.A.rt mk).n = n := by rw [← hn]; simp [Sk.l]
  have hn32 : n ≤ 32 := by rw [← hn2]; exact (hok.a.rt mk (by rw [hok.k]; exact hmkl)).1
  obtain ⟨N, hN⟩ : ∃ N, max 1 n = N := ⟨_, rfl⟩
  have hN1 : 1 ≤ N ∧ N ≤ 32 := by omega
  have HMAX := hid (show max 1 (n : Int) = (N : Int) by omega)
  have hNz : ¬ (N : Int) = 0 := by omega
  have HN := hid hn
  obtain ⟨pa, hpa⟩ : ∃ pa, x.a % N = pa := ⟨_, rfl⟩
  obtain ⟨pb, hpb⟩ : ∃ pb, x.b % N = pb := ⟨_, rfl⟩
  have hpaN : pa < N := by rw [← hpa]; exact Nat.mod_lt _ (by omega)
  have HPA := hid (show (x.a : Int) % (N : Int) = (pa : Int) by rw [← hpa]; simp)
  have HPB := hid (show (x.b : Int) % (N : Int) = (pb : Int) by rw [← hpb]; simp)
  have hmo : x.mo s = (match x.kind % 8 with
    | 0 => .make mk (x.a % 5 : Nat) false
    | 1 => .load mk pa (x.b % 4 : Nat)
    | 2 => .store mk pa (x.b / 16 % 4 : Nat) pb
    | 3 => .store mk pa (x.b / 16 % 4 : Nat) pb
    | 4 => .store mk pa (x.b % 4 : Nat) (-1)
    | 5 => .drop mk pa
    | 6 => .put mk ((pa : Nat) - (x.b / 128 : Nat)) (x.b % 8 : Nat)
    | _ => .get mk (x.b % 8 : Nat)) := by
    unfold Tv.mo
    dsimp only
    rw [hmk, hn2, hN, hpa, hpb]
    all_goals rfl
  obtain ⟨wA, hwA⟩ : ∃ wA, w.alloc (.cells #[.int .u8 x.kind, .int .u8 x.m, .int .u8 x.a, .int .u8 x.b] 78) = wA := ⟨_, rfl⟩
  have kA : Keeps (fun _ => False) w wA := by rw [← hwA]; exact (Keeps.refl _ _).alloc _
  have qA : wA.heap[w.heap.size]? = some (.cells #[.int .u8 x.kind, .int .u8 x.m, .int .u8 x.a, .int .u8 x.b] 78) := by rw [← hwA]; exact alloc_new
  have hfl := h.both.footlt
  have HKA := hid kA; have HWA := hid hwA; have HH := hid h; have HFL := hid hfl; have HOK := hid hok
  have HCF := hid (fun W (hk : Keeps (foot2 LA LM s) wA W) => And.intro (cells4 (block_keep qA hk (fun hf => by have := hfl _ hf; omega))) (cells4 (block_keep (block_keep h.own kA (fun h => h)) hk h.pfoot)))
  have hw0 := lt_block qA
  obtain ⟨⟨b0, b1, b2, b3, bl⟩, ⟨x0, x1, x2, x3, xl⟩⟩ := HCF.out wA (Keeps.refl _ _)
  clear hwA kA qA hn hn2 hN hmk hfl hpa hpb hmkl h hok
  obtain ⟨qa, hqa⟩ : ∃ qa, x.b / 128 = qa := ⟨_, rfl⟩
  obtain ⟨qb, hqb⟩ : ∃ qb, x.b % 8 = qb := ⟨_, rfl⟩
  have hd1 : (x.b : Int) / 128 = (qa : Int) := by omega
  have hd2 : (x.b : Int).tdiv 128 = (qa : Int) := by rw [Int.tdiv_eq_ediv_of_nonneg (by omega)]; exact hd1
  have hwa : IntKind.i64.wrap (qa : Int) = (qa : Int) := IntWalk.i64_in _ (by omega)
  have hwu : IntKind.u8.wrap (qa : Int) = (qa : Int) := u8_wrap (by omega)
  have hws : IntKind.i64.wrap ((pa : Int) - (qa : Int)) = (pa : Int) - (qa : Int) := IntWalk.i64_in _ (by omega)
  have hwb : IntKind.i64.wrap (x.b : Int) = (x.b : Int) := IntWalk.i64_in _ (by omega)
  have hq1 : (x.b : Int) % 8 = (qb : Int) := by omega
  have hq2 : (x.b : Int).tmod 8 = (qb : Int) := by rw [Int.tmod_eq_emod_of_nonneg (by omega)]; exact hq1
  have HEQ := hid (show (x.b / 128, x.b % 8) = (qa, qb) by rw [hqa, hqb])
  have hmo' : (x.mo s).doR s = Sys.told (s.A.putR mk ((pa : Int) - (qa : Int)) qb) s mk := by rw [hmo, hk8, hqa, hqb]; rfl
  rw [hmo']
  have HA := hid (fun W (hk : Keeps (fun _ => False) w W) => (HH.out.same hk).put HOK.out mk ((pa : Int) - (qa : Int)) qb)
  have hmy : (s.A.putR mk ((pa : Int) - (qa : Int)) qb).A.many = s.A.many := (Ar.putR_n s.A _ _ _).2
  unfold Sys.told
  obtain ⟨R, hR⟩ : ∃ R, s.A.putR mk ((pa : Int) - (qa : Int)) qb = R := ⟨_, rfl⟩
  rw [hR] at HA hmy ⊢
  have HFE := hid (HH.out.foot hmy)
  have HFX := hid (show ∀ B : Nat, w.heap.size ≤ B → ¬ foot2 LA LM ⟨R.A, s.M⟩ B from fun B hl hf => by rw [HH.out.foot hmy] at hf; have := HFL.out _ hf; omega)
  have HF := hid (fun W' {W : World} (hW : Sy w0 W p a m LA LM ⟨R.A, s.M⟩ lv) (hk : Keeps (fun y => w.heap.size ≤ y) W W') => HH.out.far hW hmy rfl hk)
  obtain ⟨T, hT⟩ : ∃ T, (if R.e = 0 then (s.M.wroteR mk R.was R.now).1 else s.M) = T := ⟨_, rfl⟩
  have HT := hid hT
  rw [hT]
  clear hT hmo hmo' hk8 hR hmy hqa hqb HEQ
  unfold Tv.val
  go_enter Tryz.func133, Tryz.ntmps133
  go_upto_region 1 with (fail)
  rw [HWA.out]
  go_quiet (fail)
  rw [HMOD.out]
  obtain ⟨wB, hwB⟩ : ∃ wB, wA.drewN nq = wB := ⟨_, rfl⟩
  rw [hwB]
  have kB : Keeps (fun _ => False) wA wB := by rw [← hwB]; exact (Keeps.refl _ _).drewN _
  have HKB := hid kB
  obtain ⟨⟨z0, z1, z2, z3, zl⟩, ⟨u0, u1, u2, u3, ul⟩⟩ := HCF.out wB kB.up
  clear hwB kB b0 b1 b2 b3 bl x0 x1 x2 x3 xl
  go_wp2_with fail
  refine (HSA.out _ (HKA.out.trans HKB.out)).mono ?_
  rintro e w1 ⟨v5, rfl, hr5, k5⟩
  obtain ⟨p5, c5, hv5⟩ := own_shape hr5
  obtain rfl := hv5
  have HK1 := hid (HKB.out.trans k5)
  obtain ⟨⟨b0, b1, b2, b3, bl⟩, ⟨x0, x1, x2, x3, xl⟩⟩ := HCF.out w1 (HKB.out.trans k5).up
  rw [HN.out]
  clear k5 hr5 z0 z1 z2 z3 zl u0 u1 u2 u3 ul
  go_upto_region 3 with (fail)
  go_cut [7] (fun s7 wx => s7 = .int .i64 N ∧ wx = w1)
  case first =>
    go_wp2_with fail
    all_goals
      go_meet
      refine ⟨?_, rfl⟩
      congr 1
      have hmx := HMAX.out
      omega
  case rest =>
  obtain ⟨rfl, hwc⟩ := hcut
  rw [hwc]
  clear hwc
  go_wp2_with fail
  go_quiet (fail)
  rw [HPA.out, HPB.out]
  obtain ⟨wz, hwz⟩ : ∃ wz, w1.drewN nq = wz := ⟨_, rfl⟩
  rw [hwz]
  have kz : Keeps (fun _ => False) w1 wz := by rw [← hwz]; exact (Keeps.refl _ _).drewN _
  have HKZ := hid (HK1.out.trans kz)
  have HKW := hid (HKA.out.trans (HK1.out.trans kz))
  obtain ⟨⟨z0, z1, z2, z3, zl⟩, ⟨u0, u1, u2, u3, ul⟩⟩ := HCF.out wz (HK1.out.trans kz).up
  clear hwz kz b0 b1 b2 b3 bl x0 x1 x2 x3 xl
  go_wp2_with fail
  have HPS := hid (fun W (hk : Keeps (foot2 LA LM s) wA W) => And.intro (HCF.out W hk).2.1 (HCF.out W hk).1.2.2.2.1)
  have hzw := HKW.out.size; have hzA := HKZ.out.size
  clear z0 z1 z2 z3 zl u0 u1 u2 u3 ul
  go_upto_region 25 with (fail)
  go_cut [18, 19, 20] from 21 (fun s1 s2 s3 wx => ∃ B1 B2, s1 = .pointer (some ⟨B1, 0, none⟩) ∧ s2 = .pointer (some ⟨B2, 0, none⟩) ∧ s3 = .int .i64 R.e ∧ wx.heap[B1]? = some (.cells #[.int .i64 R.was.s, .int .u32 R.was.g] 33) ∧ wx.heap[B2]? = some (.cells #[.int .i64 R.now.s, .int .u32 R.now.g] 33) ∧ w.heap.size ≤ B1 ∧ w.heap.size ≤ B2 ∧ Sy w0 wx p a m LA LM ⟨R.A, s.M⟩ lv ∧ Keeps (foot2 LA LM s) w wx)
  case first =>
    go_region_held3 (fun W => W.cell? ⟨p, 0, none⟩ = some (.pointer (some ⟨a, 0, none⟩)) ∧ W.cell? ⟨w.heap.size, 3, none⟩ = some (.int .u8 x.b))
      ((refine HPS.out _ ?_; (repeat (first | with_reducible exact HKZ.out.up | with_reducible refine Keeps.alloc ?_ _ | with_reducible refine Keeps.drewN ?_ _ | with_reducible refine Keeps.drew ?_ | with_reducible refine Keeps.setCell ?_ (.inr ?_) _ | with_reducible refine Keeps.trans ?_ hk3)) <;> (dsimp only; omega)))
      (first | (go_at_call 106; refine (HA.out _ (by (repeat (first | with_reducible exact HKW.out | with_reducible refine Keeps.drewN ?_ _ | with_reducible refine Keeps.drew ?_ | with_reducible refine Keeps.alloc ?_ _)))).mono ?_; rintro e w3 ⟨rfl, hs3, hk3⟩; dsimp only [Rf.val]; have hkw : Keeps (foot2 LA LM s) w w3 := Keeps.trans (by (repeat (first | with_reducible exact HKW.out.up | with_reducible refine Keeps.drewN ?_ _ | with_reducible refine Keeps.drew ?_ | with_reducible refine Keeps.alloc ?_ _))) hk3; have hks := hkw.size; (first | (have nb := block_keep (show (World.drew ((wz.alloc (.cells #[.int .i64 0, .int .u32 0] 33)).alloc (.cells #[.int .i64 0, .int .u32 0] 33))).heap[wz.heap.size]? = _ from alloc_old alloc_new) hk3 (fun hf => by have := HFL.out _ hf; omega); have nc := block_keep (show (World.drew ((wz.alloc (.cells #[.int .i64 0, .int .u32 0] 33)).alloc (.cells #[.int .i64 0, .int .u32 0] 33))).heap[wz.heap.size + 1]? = _ from alloc_new' (by simp)) hk3 (fun hf => by have := HFL.out _ hf; omega); have nx := cells2 nb; obtain ⟨n0, n1, nf, nl⟩ := nx; have nf0 := nf 0; have nf1 := nf 1; have ny := cells2 nc; obtain ⟨m0, m1, mf, ml⟩ := ny; have mf0 := mf 0; have mf1 := mf 1) | (have nb := block_keep (show (World.drew (wz.alloc (.cells #[.int .i64 0, .int .u32 0] 33))).heap[wz.heap.size]? = _ from alloc_new) hk3 (fun hf => by have := HFL.out _ hf; omega); have nx := cells2 nb; obtain ⟨n0, n1, nf, nl⟩ := nx; have nf0 := nf 0; have nf1 := nf 1) | skip)))
    all_goals
      go_wp2_with fail
      go_meet
      refine ⟨_, _, rfl, rfl, rfl, ?_, ?_, ?_, ?_, ?_, ?_⟩
      · try dsimp only [Ob.arr]
        repeat (first | (with_reducible assumption) | (with_reducible refine alloc_new' ?_; simp; done) | (with_reducible refine alloc_old ?_) | (with_reducible apply fin10) | (with_reducible apply fin2) | (with_reducible refine set_oth2 ?_ ?_; focus (first | (simp; done) | (dsimp only; omega))))
      · try dsimp only [Ob.arr]
        repeat (first | (with_reducible assumption) | (with_reducible refine alloc_new' ?_; simp; done) | (with_reducible refine alloc_old ?_) | (with_reducible apply fin10) | (with_reducible apply fin2) | (with_reducible refine set_oth2 ?_ ?_; focus (first | (simp; done) | (dsimp only; omega))))
      · omega
      · omega
      · refine HF.out _ hs3 ?_
        repeat (first | (with_reducible exact (Keeps.refl _ _)) | with_reducible refine Keeps.setCell ?_ ?_ _ | with_reducible refine Keeps.alloc ?_ _ | with_reducible refine Keeps.drewN ?_ _ | with_reducible refine Keeps.drew ?_)
        all_goals first | (left; simp; done) | (left; simp; omega) | (right; simp; done) | (right; simp; omega)
      · repeat (first | (with_reducible exact hkw) | with_reducible refine Keeps.setCell ?_ ?_ _ | with_reducible refine Keeps.alloc ?_ _ | with_reducible refine Keeps.drewN ?_ _ | with_reducible refine Keeps.drew ?_)
        all_goals first | (left; simp; done) | (left; simp; omega) | (right; simp; done) | (right; simp; omega)
  case rest =>
  obtain ⟨B1, B2, rfl, rfl, rfl, hb1, hb2, hl1, hl2, hs4, hk4⟩ := hcut
  obtain ⟨w4, hw4⟩ : ∃ w4, wc = w4 := ⟨_, rfl⟩
  rw [hw4] at hb1 hb2 hs4 hk4 ⊢
  clear hw4
  have HS4 := hid hs4; have HK4 := hid hk4; have HB1 := hid hb1; have HB2 := hid hb2
  obtain ⟨x0, x1, x2, x3, xl⟩ := cells4 hs4.own
  obtain ⟨y0, y1, _, yl⟩ := cells2 hb1
  obtain ⟨z0, z1, _, zl⟩ := cells2 hb2
  clear hb1 hb2 hs4 hk4
  by_cases he : R.e = 0
  · have he1 : (R.e == 0) = true := by simpa using he
    have HT0 := hid (show (s.M.wroteR mk R.was R.now).1 = T from by have h := HT.out; rwa [if_pos he] at h)
    rw [he]
    have HWR := hid (fun W (hk : Keeps (fun _ => False) w4 W) => (HS4.out.same hk).wrote mk R.was R.now)
    clear he he1
    go_upto_region 27 with (fail)
    go_region_held3 (fun W => W.cell? ⟨p, 1, none⟩ = some (.pointer (some ⟨m, 0, none⟩)) ∧ W.cell? ⟨B1, 0, none⟩ = some (.int .i64 R.was.s) ∧ W.cell? ⟨B1, 1, none⟩ = some (.int .u32 R.was.g) ∧ W.cell? ⟨B2, 0, none⟩ = some (.int .i64 R.now.s) ∧ W.cell? ⟨B2, 1, none⟩ = some (.int .u32 R.now.g))
      ((first | exact ⟨x1, y0, y1, z0, z1⟩ | exact hc6))
      (first | (go_at_call 175; refine (HWR.out _ (Keeps.refl _ _).drew).mono ?_; rintro e w6 ⟨⟨v6, rfl⟩, hs6, hk6⟩; have hc6 : w6.cell? ⟨p, 1, none⟩ = some (.pointer (some ⟨m, 0, none⟩)) ∧ w6.cell? ⟨B1, 0, none⟩ = some (.int .i64 R.was.s) ∧ w6.cell? ⟨B1, 1, none⟩ = some (.int .u32 R.was.g) ∧ w6.cell? ⟨B2, 0, none⟩ = some (.int .i64 R.now.s) ∧ w6.cell? ⟨B2, 1, none⟩ = some (.int .u32 R.now.g) := ⟨(cells4 hs6.own).2.1, (cells2 (block_keep (w := w4.drew) HB1.out hk6 (HFX.out _ hl1))).1, (cells2 (block_keep (w := w4.drew) HB1.out hk6 (HFX.out _ hl1))).2.1, (cells2 (block_keep (w := w4.drew) HB2.out hk6 (HFX.out _ hl2))).1, (cells2 (block_keep (w := w4.drew) HB2.out hk6 (HFX.out _ hl2))).2.1⟩))
    all_goals
      go_wp2_with fail
      go_end0
      exact ⟨rfl, HT0.out ▸ hs6, HK4.out.trans (HFE.out ▸ ((Keeps.refl _ _).drew.trans hk6))⟩
  · have he1 : (R.e == 0) = false := by simpa using he
    have HT0 := hid (show s.M = T from by have h := HT.out; rwa [if_neg he] at h)
    clear he
    go_wp2_with fail
    go_end0
    exact ⟨rfl, HT0.out ▸ HS4.out, HK4.out⟩
set_option maxRecDepth 100000 in
set_option maxHeartbeats 1000000 in
theorem mu_make (x : Tv) (h : Sy w0 w p a m LA LM s lv) (hok : s.Ok) (hx : x.Byte) (hk8 : x.kind % 8 = 0) :
    Calls Tryz.prog 133 #[.pointer (some ⟨p, 0, none⟩), x.val] w fun e w' => e = .returned (.tuple #[]) ∧ Sy w0 w' p a m LA LM ((x.mo s).doR s) lv ∧ Keeps (foot2 LA LM s) w w' := by
  have hki : (x.kind : Int) % 8 = 0 := by omega
  have hmany := hok.m.k1; have hm4 := hok.m.k4
  obtain ⟨hb0, hb1, hb2, hb3⟩ := hx
  have hz : ¬ (s.M.K.many : Int) = 0 := by omega
  obtain ⟨mk, hmk⟩ : ∃ mk, x.m % s.M.K.many = mk := ⟨_, rfl⟩
  have hmkl : mk < s.M.K.many := by rw [← hmk]; exact Nat.mod_lt _ (by omega)
  have HMOD := hid (show (x.m : Int) % (s.M.K.many : Int) = (mk : Int) by rw [← hmk]; simp)
  have HSA := hid (fun W (hk : Keeps (fun _ => False) w W) => astackall_ok a LA s.A mk W (Duo.same h.both hk).ar (by rw [hok.k]; exact hmkl))
  obtain ⟨n, hn⟩ : ∃ n, (s.A.rt mk).l.length = n := ⟨_, rfl⟩
  have hn2 : (s.A.rt mk).n = n := by rw [← hn]; simp [Sk.l]
  have hn32 : n ≤ 32 := by rw [← hn2]; exact (hok.a.rt mk (by rw [hok.k]; exact hmkl)).1
  obtain ⟨N, hN⟩ : ∃ N, max 1 n = N := ⟨_, rfl⟩
  have hN1 : 1 ≤ N ∧ N ≤ 32 := by omega
  have HMAX := hid (show max 1 (n : Int) = (N : Int) by omega)
  have hNz : ¬ (N : Int) = 0 := by omega
  have HN := hid hn
  obtain ⟨pa, hpa⟩ : ∃ pa, x.a % N = pa := ⟨_, rfl⟩
  obtain ⟨pb, hpb⟩ : ∃ pb, x.b % N = pb := ⟨_, rfl⟩
  have hpaN : pa < N := by rw [← hpa]; exact Nat.mod_lt _ (by omega)
  have HPA := hid (show (x.a : Int) % (N : Int) = (pa : Int) by rw [← hpa]; simp)
  have HPB := hid (show (x.b : Int) % (N : Int) = (pb : Int) by rw [← hpb]; simp)
  have hmo : x.mo s = (match x.kind % 8 with
    | 0 => .make mk (x.a % 5 : Nat) false
    | 1 => .load mk pa (x.b % 4 : Nat)
    | 2 => .store mk pa (x.b / 16 % 4 : Nat) pb
    | 3 => .store mk pa (x.b / 16 % 4 : Nat) pb
    | 4 => .store mk pa (x.b % 4 : Nat) (-1)
    | 5 => .drop mk pa
    | 6 => .put mk ((pa : Nat) - (x.b / 128 : Nat)) (x.b % 8 : Nat)
    | _ => .get mk (x.b % 8 : Nat)) := by
    unfold Tv.mo
    dsimp only
    rw [hmk, hn2, hN, hpa, hpb]
    all_goals rfl
  obtain ⟨wA, hwA⟩ : ∃ wA, w.alloc (.cells #[.int .u8 x.kind, .int .u8 x.m, .int .u8 x.a, .int .u8 x.b] 78) = wA := ⟨_, rfl⟩
  have kA : Keeps (fun _ => False) w wA := by rw [← hwA]; exact (Keeps.refl _ _).alloc _
  have qA : wA.heap[w.heap.size]? = some (.cells #[.int .u8 x.kind, .int .u8 x.m, .int .u8 x.a, .int .u8 x.b] 78) := by rw [← hwA]; exact alloc_new
  have hfl := h.both.footlt
  have HKA := hid kA; have HWA := hid hwA; have HH := hid h; have HFL := hid hfl; have HOK := hid hok
  have HCF := hid (fun W (hk : Keeps (foot2 LA LM s) wA W) => And.intro (cells4 (block_keep qA hk (fun hf => by have := hfl _ hf; omega))) (cells4 (block_keep (block_keep h.own kA (fun h => h)) hk h.pfoot)))
  have hw0 := lt_block qA
  obtain ⟨⟨b0, b1, b2, b3, bl⟩, ⟨x0, x1, x2, x3, xl⟩⟩ := HCF.out wA (Keeps.refl _ _)
  clear hwA kA qA hn hn2 hN hmk hfl hpa hpb hmkl h hok
  obtain ⟨qb, hqb⟩ : ∃ qb, x.a % 5 = qb := ⟨_, rfl⟩
  have hwb : IntKind.i64.wrap (x.a : Int) = (x.a : Int) := IntWalk.i64_in _ (by omega)
  have hq1 : (x.a : Int) % 5 = (qb : Int) := by omega
  have hq2 : (x.a : Int).tmod 5 = (qb : Int) := by rw [Int.tmod_eq_emod_of_nonneg (by omega)]; exact hq1
  have hmo' : (x.mo s).doR s = ⟨(s.A.makeR mk qb false).A, if (s.A.makeR mk qb false).e = 0 then (s.M.madeR (s.A.makeR mk qb false).now).1 else s.M⟩ := by rw [hmo, hk8, hqb]; rfl
  rw [hmo']
  have HA := hid (fun W (hk : Keeps (fun _ => False) w W) => (HH.out.same hk).make HOK.out mk qb false)
  have hmy : (s.A.makeR mk qb false).A.many = s.A.many := (Ar.makeR_n s.A _ _ _).2
  obtain ⟨R, hR⟩ : ∃ R, s.A.makeR mk qb false = R := ⟨_, rfl⟩
  rw [hR] at HA hmy ⊢
  have HFE := hid (HH.out.foot hmy)
  have HFX := hid (show ∀ B : Nat, w.heap.size ≤ B → ¬ foot2 LA LM ⟨R.A, s.M⟩ B from fun B hl hf => by rw [HH.out.foot hmy] at hf; have := HFL.out _ hf; omega)
  have HF := hid (fun W' {W : World} (hW : Sy w0 W p a m LA LM ⟨R.A, s.M⟩ lv) (hk : Keeps (fun y => w.heap.size ≤ y) W W') => HH.out.far hW hmy rfl hk)
  obtain ⟨T, hT⟩ : ∃ T, (if R.e = 0 then (s.M.madeR R.now).1 else s.M) = T := ⟨_, rfl⟩
  have HT := hid hT
  rw [hT]
  clear hT hmo hmo' hk8 hqb hR hmy
  unfold Tv.val
  go_enter Tryz.func133, Tryz.ntmps133
  go_upto_region 1 with (fail)
  rw [HWA.out]
  go_quiet (fail)
  rw [HMOD.out]
  obtain ⟨wB, hwB⟩ : ∃ wB, wA.drewN nq = wB := ⟨_, rfl⟩
  rw [hwB]
  have kB : Keeps (fun _ => False) wA wB := by rw [← hwB]; exact (Keeps.refl _ _).drewN _
  have HKB := hid kB
  obtain ⟨⟨z0, z1, z2, z3, zl⟩, ⟨u0, u1, u2, u3, ul⟩⟩ := HCF.out wB kB.up
  clear hwB kB b0 b1 b2 b3 bl x0 x1 x2 x3 xl
  go_wp2_with fail
  refine (HSA.out _ (HKA.out.trans HKB.out)).mono ?_
  rintro e w1 ⟨v5, rfl, hr5, k5⟩
  obtain ⟨p5, c5, hv5⟩ := own_shape hr5
  obtain rfl := hv5
  have HK1 := hid (HKB.out.trans k5)
  obtain ⟨⟨b0, b1, b2, b3, bl⟩, ⟨x0, x1, x2, x3, xl⟩⟩ := HCF.out w1 (HKB.out.trans k5).up
  rw [HN.out]
  clear k5 hr5 z0 z1 z2 z3 zl u0 u1 u2 u3 ul
  go_upto_region 3 with (fail)
  go_cut [7] (fun s7 wx => s7 = .int .i64 N ∧ wx = w1)
  case first =>
    go_wp2_with fail
    all_goals
      go_meet
      refine ⟨?_, rfl⟩
      congr 1
      have hmx := HMAX.out
      omega
  case rest =>
  obtain ⟨rfl, hwc⟩ := hcut
  rw [hwc]
  clear hwc
  go_wp2_with fail
  go_quiet (fail)
  rw [HPA.out, HPB.out]
  obtain ⟨wz, hwz⟩ : ∃ wz, w1.drewN nq = wz := ⟨_, rfl⟩
  rw [hwz]
  have kz : Keeps (fun _ => False) w1 wz := by rw [← hwz]; exact (Keeps.refl _ _).drewN _
  have HKZ := hid (HK1.out.trans kz)
  have HKW := hid (HKA.out.trans (HK1.out.trans kz))
  obtain ⟨⟨z0, z1, z2, z3, zl⟩, ⟨u0, u1, u2, u3, ul⟩⟩ := HCF.out wz (HK1.out.trans kz).up
  clear hwz kz b0 b1 b2 b3 bl x0 x1 x2 x3 xl
  go_wp2_with fail
  have HPS := hid (fun W (hk : Keeps (foot2 LA LM s) wA W) => And.intro (HCF.out W hk).2.1 (HCF.out W hk).1.2.2.1)
  have hzw := HKW.out.size; have hzA := HKZ.out.size
  clear z0 z1 z2 z3 zl u0 u1 u2 u3 ul
  go_region_held3 (fun W => W.cell? ⟨p, 0, none⟩ = some (.pointer (some ⟨a, 0, none⟩)) ∧ W.cell? ⟨w.heap.size, 2, none⟩ = some (.int .u8 x.a))
    ((refine HPS.out _ ?_; (repeat (first | with_reducible exact HKZ.out.up | with_reducible refine Keeps.alloc ?_ _ | with_reducible refine Keeps.drewN ?_ _ | with_reducible refine Keeps.drew ?_ | with_reducible refine Keeps.setCell ?_ (.inr ?_) _ | with_reducible refine Keeps.trans ?_ hk3)) <;> (dsimp only; omega)))
    (first | (go_at_call 99; refine (HA.out _ (by (repeat (first | with_reducible exact HKW.out | with_reducible refine Keeps.drewN ?_ _ | with_reducible refine Keeps.drew ?_ | with_reducible refine Keeps.alloc ?_ _)))).mono ?_; rintro e w3 ⟨rfl, hs3, hk3⟩; dsimp only [Rf.val]; have hkw : Keeps (foot2 LA LM s) w w3 := Keeps.trans (by (repeat (first | with_reducible exact HKW.out.up | with_reducible refine Keeps.drewN ?_ _ | with_reducible refine Keeps.drew ?_ | with_reducible refine Keeps.alloc ?_ _))) hk3; have hks := hkw.size; (first | (have nb := block_keep (show (World.drew (wz.alloc (.cells #[.int .i64 0, .int .u32 0] 33))).heap[wz.heap.size]? = _ from alloc_new) hk3 (fun hf => by have := HFL.out _ hf; omega); have nx := cells2 nb; obtain ⟨n0, n1, nf, nl⟩ := nx; have nf0 := nf 0; have nf1 := nf 1) | skip)))
  · obtain ⟨w4, hw4⟩ : ∃ w4, w3.alloc (.cells #[.int .i64 R.now.s, .int .u32 R.now.g] 33) = w4 := ⟨_, rfl⟩
    have hB : w4.heap[w3.heap.size]? = some (.cells #[.int .i64 R.now.s, .int .u32 R.now.g] 33) := by rw [← hw4]; exact alloc_new
    have lB : w.heap.size ≤ w3.heap.size := hks
    have hs4 : Sy w0 w4 p a m LA LM ⟨R.A, s.M⟩ lv := by rw [← hw4]; exact hs3.same ((Keeps.refl _ _).alloc _)
    have hk4 : Keeps (foot2 LA LM s) w w4 := by rw [← hw4]; exact hkw.alloc _
    have HW4 := hid hw4
    clear hw4 hs3 hk3 hkw
    have HK4 := hid hk4; have HB := hid hB; have HS4 := hid hs4
    obtain ⟨x0, x1, x2, x3, xl⟩ := cells4 hs4.own
    obtain ⟨y0, y1, _, yl⟩ := cells2 hB
    have HMD := hid (fun W (hk : Keeps (fun _ => False) w4 W) => (HS4.out.same hk).madeM R.now)
    clear hs4 hk4 hB
    by_cases he : R.e = 0
    · have he1 : (R.e == 0) = true := by simpa using he
      have HT0 := hid (show (s.M.madeR R.now).1 = T from by have h := HT.out; rwa [if_pos he] at h)
      rw [he]
      clear he he1
      go_upto_region 10 with (fail)
      rw [HW4.out]
      go_region_held3 (fun W => W.cell? ⟨p, 1, none⟩ = some (.pointer (some ⟨m, 0, none⟩)) ∧ W.cell? ⟨w3.heap.size, 0, none⟩ = some (.int .i64 R.now.s) ∧ W.cell? ⟨w3.heap.size, 1, none⟩ = some (.int .u32 R.now.g))
        ((first | exact ⟨x1, y0, y1⟩ | exact hc6))
        (first | (go_at_call 229; refine (HMD.out _ (Keeps.refl _ _).drew).mono ?_; rintro e w6 ⟨⟨v6, rfl⟩, hs6, hk6⟩; have hc6 : w6.cell? ⟨p, 1, none⟩ = some (.pointer (some ⟨m, 0, none⟩)) ∧ w6.cell? ⟨w3.heap.size, 0, none⟩ = some (.int .i64 R.now.s) ∧ w6.cell? ⟨w3.heap.size, 1, none⟩ = some (.int .u32 R.now.g) := ⟨(cells4 hs6.own).2.1, (cells2 (block_keep (w := w4.drew) HB.out hk6 (HFX.out _ lB))).1, (cells2 (block_keep (w := w4.drew) HB.out hk6 (HFX.out _ lB))).2.1⟩))
      all_goals
        go_wp2_with fail
        go_end0
        exact ⟨rfl, HT0.out ▸ hs6, HK4.out.trans (HFE.out ▸ ((Keeps.refl _ _).drew.trans hk6))⟩
    · have he1 : (R.e == 0) = false := by simpa using he
      have HT0 := hid (show s.M = T from by have h := HT.out; rwa [if_neg he] at h)
      clear he
      go_wp2_with fail
      rw [HW4.out]
      go_end0
      exact ⟨rfl, HT0.out ▸ HS4.out, HK4.out⟩
  · obtain ⟨w4, hw4⟩ : ∃ w4, (w3.setCell ⟨wz.heap.size, 0, none⟩ (.int .i64 R.now.s)).setCell ⟨wz.heap.size, 1, none⟩ (.int .u32 R.now.g) = w4 := ⟨_, rfl⟩
    have hB : w4.heap[wz.heap.size]? = some (.cells #[.int .i64 R.now.s, .int .u32 R.now.g] 33) := by rw [← hw4]; exact fin2 nb
    have lB : w.heap.size ≤ wz.heap.size := hzw
    have hs4 : Sy w0 w4 p a m LA LM ⟨R.A, s.M⟩ lv := by rw [← hw4]; exact HF.out _ hs3 ((kfin0 _ _ _ _).mono (fun y _ h => by omega))
    have hk4 : Keeps (foot2 LA LM s) w w4 := by rw [← hw4]; exact kfin hkw hzw _ _
    have HW4 := hid hw4
    clear hw4 hs3 hk3 hkw nb n0 n1 nf nf0 nf1 nl
    have HK4 := hid hk4; have HB := hid hB; have HS4 := hid hs4
    obtain ⟨x0, x1, x2, x3, xl⟩ := cells4 hs4.own
    obtain ⟨y0, y1, _, yl⟩ := cells2 hB
    have HMD := hid (fun W (hk : Keeps (fun _ => False) w4 W) => (HS4.out.same hk).madeM R.now)
    clear hs4 hk4 hB
    by_cases he : R.e = 0
    · have he1 : (R.e == 0) = true := by simpa using he
      have HT0 := hid (show (s.M.madeR R.now).1 = T from by have h := HT.out; rwa [if_pos he] at h)
      rw [he]
      clear he he1
      go_upto_region 10 with (fail)
      rw [HW4.out]
      go_region_held3 (fun W => W.cell? ⟨p, 1, none⟩ = some (.pointer (some ⟨m, 0, none⟩)) ∧ W.cell? ⟨wz.heap.size, 0, none⟩ = some (.int .i64 R.now.s) ∧ W.cell? ⟨wz.heap.size, 1, none⟩ = some (.int .u32 R.now.g))
        ((first | exact ⟨x1, y0, y1⟩ | exact hc6))
        (first | (go_at_call 229; refine (HMD.out _ (Keeps.refl _ _).drew).mono ?_; rintro e w6 ⟨⟨v6, rfl⟩, hs6, hk6⟩; have hc6 : w6.cell? ⟨p, 1, none⟩ = some (.pointer (some ⟨m, 0, none⟩)) ∧ w6.cell? ⟨wz.heap.size, 0, none⟩ = some (.int .i64 R.now.s) ∧ w6.cell? ⟨wz.heap.size, 1, none⟩ = some (.int .u32 R.now.g) := ⟨(cells4 hs6.own).2.1, (cells2 (block_keep (w := w4.drew) HB.out hk6 (HFX.out _ lB))).1, (cells2 (block_keep (w := w4.drew) HB.out hk6 (HFX.out _ lB))).2.1⟩))
      all_goals
        go_wp2_with fail
        go_end0
        exact ⟨rfl, HT0.out ▸ hs6, HK4.out.trans (HFE.out ▸ ((Keeps.refl _ _).drew.trans hk6))⟩
    · have he1 : (R.e == 0) = false := by simpa using he
      have HT0 := hid (show s.M = T from by have h := HT.out; rwa [if_neg he] at h)
      clear he
      go_wp2_with fail
      rw [HW4.out]
      go_end0
      exact ⟨rfl, HT0.out ▸ HS4.out, HK4.out⟩
theorem mutate_ok (x : Tv) (h : Sy w0 w p a m LA LM s lv) (hok : s.Ok) (hx : x.Byte) :
    Calls Tryz.prog 133 #[.pointer (some ⟨p, 0, none⟩), x.val] w fun e w' => e = .returned (.tuple #[]) ∧ Sy w0 w' p a m LA LM ((x.mo s).doR s) lv ∧ Keeps (foot2 LA LM s) w w' := by
  have hlt := Nat.mod_lt x.kind (show 0 < 8 by omega)
  obtain hk | hk | hk | hk | hk | hk | hk | hk : x.kind % 8 = 0 ∨ x.kind % 8 = 1 ∨ x.kind % 8 = 2 ∨ x.kind % 8 = 3 ∨ x.kind % 8 = 4 ∨ x.kind % 8 = 5 ∨ x.kind % 8 = 6 ∨ x.kind % 8 = 7 := by omega
  · exact mu_make x h hok hx hk
  · exact mu_load x h hok hx hk
  · exact mu_store2 x h hok hx hk
  · exact mu_store3 x h hok hx hk
  · exact mu_store4 x h hok hx hk
  · exact mu_drop x h hok hx hk
  · exact mu_put x h hok hx hk
  · exact mu_get x h hok hx hk
end Go.Proofs.YtehmoikbeflkaaaGreat
